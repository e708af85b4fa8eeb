/- For ConcreteWithin: values as trees, operations, regions. -/
import Derived.WalkKit
import Derived.OrdersIn
import Derived.TacticsIn
import Derived.ChangeKeysEq
import Derived.Great.BuildSlice
import Derived.Deep.AppendSrc
import Derived.Laws.AppendOwn
import Derived.MapKept
import Derived.RangeFuncLeaves
import Derived.RangeFuncNested
import Derived.Scope
theorem ii {G:Prop} (h:G:=by omega):G:=h
abbrev HP:= @if_pos
abbrev TP:= @if_neg
abbrev VU:= @Option.bind_some
abbrev VV:= @List.getElem?_eq_getElem
abbrev VX:= @List.mem_cons_of_mem
abbrev VY:= @Option.bind_assoc
abbrev VZ:= @List.getElem?_eq_some_iff
abbrev V0:= @List.mem_cons_self
abbrev V1:= @List.mem_singleton
abbrev V2:= @Nat.le_refl
abbrev V3:= @Bool.and_self
abbrev V4:= @List.length_map
abbrev V5:= @List.length_cons
abbrev V6:= @List.mem_of_getElem?
abbrev V7:= @List.length_append
abbrev V8:= @List.mem_append
abbrev V9:= @List.mem_cons
abbrev Wa:= @Bool.and_eq_true
abbrev Wb:= @List.length_set
abbrev Wc:= @List.length_replicate
abbrev Wd:= @Nat.zero_le
abbrev We:= @UInt8.toNat_lt
abbrev Wg:= @List.getD_eq_getElem?_getD
abbrev Wh:= @List.getElem?_append_right
abbrev Wi:= @List.getElem?_append_left
abbrev Wj:= @List.mem_iff_getElem?
abbrev Wl:= @Array.getElem?_eq_some_iff
abbrev Wm:= @Option.some.inj
abbrev Wn:= @List.length_eq_zero_iff
abbrev Wo:= @List.drop_eq_getElem_cons
abbrev Wp:= @of_decide_eq_true
abbrev Wq:= @Nat.le_trans
abbrev Wr:= @Bool.false_ne_true
abbrev Ws:= @List.length_singleton
abbrev Wt:= @List.getElem?_map
abbrev Wu:= @List.mem_append_left
abbrev Wv:= @Int.le_refl
abbrev Ww:= @Nat.le_of_ble_eq_true
abbrev Wx:= @List.pairwise_append
abbrev Wy:= @List.append_nil
abbrev Wz:= @Bool.and_true
abbrev WA:= @List.length_nil
abbrev WB:= @List.mem_append_right
abbrev WC:= @List.getElem_mem
abbrev WD:= @Bool.true_and
abbrev WE:= @Nat.eq_of_beq_eq_true
abbrev WG:= @List.append_assoc
abbrev WH:= @List.pairwise_singleton
abbrev WI:= @Nat.lt_or_ge
abbrev WJ:= @List.drop_eq_nil_of_le
abbrev WL:= @Array.getElem?_eq_getElem
abbrev WM:= @List.map_cons
abbrev WN:= @Option.some.injEq
abbrev WO:= @List.pairwise_cons
abbrev WQ:= @List.mem_map
abbrev WR:= @Int.toNat_natCast
abbrev WS:= @List.pairwise_iff_getElem
abbrev WT:= @List.mem_or_eq_of_mem_set
abbrev WU:= @Nat.zero_add
abbrev WV:= @List.getElem?_set
abbrev WW:= @Nat.lt_succ_self
abbrev WX:= @List.foldl_cons
abbrev WY:= @decide_eq_true_eq
abbrev WZ:= @Nat.add_mul
abbrev W0:= @Array.getD_eq_getD_getElem?
abbrev W2:= @List.map_append
abbrev W4:= @congrArg
abbrev W5:= @List.getElem?_replicate
abbrev W6:= @List.take_add_one
abbrev W7:= @Nat.mul_le_mul_right
abbrev W8:= @Nat.eq_zero_or_pos
abbrev W9:= @Nat.add_zero
abbrev Xa:= @List.take_of_length_le
abbrev Xb:= @Nat.mul_le_mul
abbrev Xc:= @List.getElem?_eq_none
abbrev Xd:= @decide_eq_true
abbrev Xe:= @Nat.lt_of_lt_of_le
abbrev Xf:= @List.getElem?_take
abbrev Xg:= @List.nil_append
abbrev Xh:= @Nat.sub_self
abbrev Xi:= @List.prod_cons
abbrev Xj:= @List.getElem?_drop
abbrev Xk:= @List.nodup_iff_pairwise_ne
abbrev Xl:= @List.concat_eq_append
abbrev Xm:= @Bool.false_eq_true
abbrev Xn:= @List.drop_zero
abbrev Xo:= @List.flatten_cons
abbrev Xp:= @Nat.mul_le_mul_left
abbrev Xq:= @List.length_pos_iff
abbrev Xr:= @List.getElem?_set_self
abbrev Xs:= @Iff.rfl
abbrev Xt:= @Nat.add_assoc
abbrev Xu:= @decide_eq_false
abbrev Xv:= @Option.map_some
abbrev Xw:= @Array.getElem?_setIfInBounds_ne
abbrev Xx:= @List.take_set_of_le
abbrev Xy:= @beq_true
abbrev Xz:= @Nat.le_mul_of_pos_right
abbrev XA:= @List.all_eq_true
abbrev XB:= @Nat.mul_add
abbrev XC:= @List.mem_replicate
abbrev XD:= @Nat.ble_eq_true_of_le
abbrev XE:= @List.getElem?_toArray
abbrev XF:= @Ne.symm
abbrev XG:= @Nat.one_mul
abbrev XH:= @Nat.mul_one
abbrev XI:= @Nat.le_succ
abbrev XJ:= @List.mem_range
abbrev XK:= @List.drop_drop
abbrev XL:= @List.countP_cons
abbrev XM:= @List.cons_append
abbrev XN:= @List.replicate_succ
abbrev XO:= @Array.toList_append
abbrev XP:= @List.idxOf_lt_length_iff
abbrev XQ:= @UInt8.toNat_ofNat'
abbrev XR:= @List.getElem?_cons_zero
abbrev XS:= @Option.map_eq_some_iff
abbrev XT:= @List.nodup_append
abbrev XU:= @List.idxOf_append
abbrev XV:= @List.replicate_append_replicate
abbrev XW:= @List.take_append_drop
abbrev XX:= @Array.getElem?_toList
abbrev XY:= @List.length_take
abbrev XZ:= @List.length_drop
abbrev X0:= @List.idxOf_cons
abbrev X1:= @Bool.or_eq_true
abbrev X2:= @Nat.sub_zero
abbrev X3:= @Nat.mul_comm
abbrev X4:= @List.map_nil
abbrev X5:= @Int.le_trans
abbrev X6:= @if_false
abbrev X7:= @Nat.eq_or_lt_of_le
abbrev X8:= @Nat.lt_trichotomy
abbrev X9:= @Nat.add_sub_of_le
abbrev Ya:= @List.size_toArray
abbrev Yb:= @List.pairwise_map
abbrev Yc:= @List.set_set
abbrev Yd:= @List.nodup_cons
abbrev Ye:= @Bool.eq_iff_iff
abbrev Yf:= @List.set_append_right
abbrev Yg:= @List.eq_nil_or_concat
abbrev Yh:= @Nat.le_zero
abbrev Yi:= @List.getElem?_of_mem
abbrev Yj:= @List.drop_eq_nil_iff
abbrev Yk:= @if_true
abbrev Yl:= @List.getElem?_range
abbrev Ym:= @Array.length_toList
abbrev Yn:= @List.cons.inj
abbrev Yo:= @beq_iff_eq
abbrev Yp:= @Option.isNone_some
abbrev Yq:= @Option.isNone_none
abbrev Yr:= @Nat.add_right_comm
abbrev Ys:= @Array.foldl_toList
abbrev Yt:= @Nat.le_of_eq
abbrev Yu:= @Nat.beq_refl
abbrev Yv:= @Array.size_append
abbrev Yw:= @Option.getD_some
abbrev Yx:= @List.nodup_range
abbrev Yy:= @List.any_eq_true
set_option linter.unusedVariables false
set_option linter.unusedSimpArgs false
set_option linter.unusedSectionVars false
namespace Sv
open Go
inductive SVal where
 |bool (b:Bool)
 |int (k:IntKind) (n:Int)
 |str (s:List UInt8)
 |nilPtr
 |ptr (k off:Nat)
 |fv (k s i off:Nat)
 |bR (row:List SVal) (off:Nat)
 |aD
 |aK (full:Bool) (rows:List (List SVal))
 |own (k s:Nat)
 |eJ
 |map (k:Nat)
 |func (fn:Fn) (first cap:List SVal)
 |fY
 |nilIface
 |iface (t:TypeId) (v:SVal)
 |agg (l:List SVal)
 |dZ (l:List SVal)
inductive Loc where
 |box (blk:Nat)
 |row (blk:Option Nat) (stamp size:Nat) (val:Value)
structure Ctx where
 ρ:Nat->Option Loc
 fz:Nat->Nat->Option Value
mutual
def Den (c:Ctx):SVal->Value->Prop
 | .bool b,v=>v= .bool b
 | .int k n,v=>v= .int k n
 | .str s,v=>v= .string ⟨s.toArray⟩
 | .nilPtr,v=>v= .pointer none
 | .ptr k off,v=>∃b,c.ρ k=some (.box b)/\v= .pointer (some ⟨b,off,none⟩)
 | .fv k s i off,v=>(∃a,v= .pointer (some a))/\∃b st sz u,c.ρ k=some (.row b st sz u)/\s<=st/\(st=s->∃r,b=some r/\v= .pointer (some ⟨r,i*sz+off,none⟩))
 | .bR row off,v=>∃b base,v= .pointer (some ⟨b,base+off,none⟩)/\b7 c b row base
 | .aD,v=>v= .slice none 0 0
 | .aK full rows,v=>(rows=[]/\∃a cap,v= .slice a 0 cap/\(full=true->cap=0))\/
   ∃b base size cap,v= .slice (some ⟨b,base,none⟩) rows.length cap/\rows.length<=cap/\(full=true->cap=rows.length)/\bO c b size rows base
 | .own k s,v=>(∃a n cap,v= .slice a n cap)/\∃b st sz u,c.ρ k=some (.row b st sz u)/\s<=st/\(st=s->v=u)
 | .eJ,v=>v= .map none
 | .map k,v=>∃b,c.ρ k=some (.box b)/\v= .map (some b)
 | .func fn x y,v=>match fn with
  | .yield k=>∃b,c.ρ k=some (.box b)/\v= .func (.yield b) #[] #[]
  |fn=>∃xs ys,aQ c x xs/\aQ c y ys/\v= .func fn xs.toArray ys.toArray
 | .fY,v=>v= .nilFunc
 | .nilIface,v=>v= .nilIface
 | .iface t s,v=>∃u,Den c s u/\v= .iface t u
 | .agg l,v=>∃vs,aQ c l vs/\v= .agg vs.toArray
 | .dZ l,v=>∃vs,aQ c l vs/\v= .tuple vs.toArray
def aQ (c:Ctx):List SVal->List Value->Prop
 |[],vs=>vs=[]
 |s::r,vs=>∃v l,Den c s v/\aQ c r l/\vs=v::l
def b7 (c:Ctx) (b:Nat):List SVal->Nat->Prop
 |[],_=>True
 |s::r,i=>(∃u,c.fz b i=some u/\u.oneCell'=true/\Den c s u)/\b7 c b r (i+1)
def bO (c:Ctx) (b size:Nat):List (List SVal)->Nat->Prop
 |[],_=>True
 |row::r,i=>row.length=size/\b7 c b row i/\bO c b size r (i+size)
end
def dJ:Loc->Loc->Prop
 | .box b,l=>l= .box b
 | .row b st sz u,l=>l= .row b st sz u\/∃b' st' sz' u',l= .row b' st' sz' u'/\st<st'
theorem dJ.refl:∀l,dJ l l
 | .box _=>rfl
 | .row .. => .inl rfl
theorem dJ.trans {a b c:Loc} (h:dJ a b) (k:dJ b c):dJ a c:=by
 cases a with
 |box x=>cases h;exact k
 |row x st sz u=>
  rcases h with rfl|⟨b',st',sz',u',rfl,h⟩
  ·exact k
  ·rcases k with rfl|⟨b2,st2,sz2,u2,rfl,k⟩
   ·exact .inr ⟨_,_,_,_,rfl,h⟩
   ·exact .inr ⟨_,_,_,_,rfl,Nat.lt_trans h k⟩
structure Le (c c':Ctx):Prop where
 ρ:∀k l,c.ρ k=some l->∃l',c'.ρ k=some l'/\dJ l l'
 fz:∀b i v,c.fz b i=some v->c'.fz b i=some v
theorem Le.refl (c:Ctx):Le c c:=⟨fun _ l h=>⟨l,h,dJ.refl l⟩,fun _ _ _ h=>h⟩
theorem Le.trans {a b c:Ctx} (h:Le a b) (k:Le b c):Le a c:=
 ⟨fun n l e=>let⟨l1,h1,h2⟩:=h.ρ n l e;let⟨l2,h3,h4⟩:=k.ρ n l1 h1;⟨l2,h3,h2.trans h4⟩,fun b i v e=>k.fz b i v (h.fz b i v e)⟩
theorem Le.box {c c':Ctx} (h:Le c c') {k b:Nat} (e:c.ρ k=some (.box b)):c'.ρ k=some (.box b):=by
 obtain⟨l,h1,h2⟩:=h.ρ k _ e
 cases h2
 exact h1
mutual
theorem Den.le {c c':Ctx} (h:Le c c'):∀(s:SVal) (v:Value),Den c s v->Den c' s v
 | .bool _,_,e=>e
 | .int _ _,_,e=>e
 | .str _,_,e=>e
 | .nilPtr,_,e=>e
 | .ptr k off,v,⟨b,h1,h2⟩=>⟨b,h.box h1,h2⟩
 | .fv k s i off,v,⟨h0,b,st,sz,u,h1,h2,h3⟩=>by
  obtain⟨l,h4,h5⟩:=h.ρ k _ h1
  rcases h5 with rfl|⟨b',st',sz',u',rfl,h5⟩
  ·exact⟨h0,b,st,sz,u,h4,h2,h3⟩
  ·exact⟨h0,b',st',sz',u',h4,by omega,fun e=>by omega⟩
 | .bR row off,v,⟨b,base,h1,h2⟩=>⟨b,base,h1,b7.le h b row base h2⟩
 | .aD,_,e=>e
 | .aK full rows,v,e=>by
  rcases e with e|⟨b,base,size,cap,h1,h2,h3,h4⟩
  ·exact .inl e
  ·exact .inr ⟨b,base,size,cap,h1,h2,h3,bO.le h b size rows base h4⟩
 | .own k s,v,⟨h0,b,st,sz,u,h1,h2,h3⟩=>by
  obtain⟨l,h4,h5⟩:=h.ρ k _ h1
  rcases h5 with rfl|⟨b',st',sz',u',rfl,h5⟩
  ·exact⟨h0,b,st,sz,u,h4,h2,h3⟩
  ·exact⟨h0,b',st',sz',u',h4,by omega,fun e=>by omega⟩
 | .eJ,_,e=>e
 | .map k,v,⟨b,h1,h2⟩=>⟨b,h.box h1,h2⟩
 | .func fn x y,v,e=>by
  cases fn<;>first
   |(obtain⟨b,h1,h2⟩:=e;exact⟨b,h.box h1,h2⟩)
   |(obtain⟨xs,ys,h1,h2,h3⟩:=e;exact⟨xs,ys,aQ.le h x xs h1,aQ.le h y ys h2,h3⟩)
 | .fY,_,e=>e
 | .nilIface,_,e=>e
 | .iface t s,v,⟨u,h1,h2⟩=>⟨u,Den.le h s u h1,h2⟩
 | .agg l,v,⟨vs,h1,h2⟩=>⟨vs,aQ.le h l vs h1,h2⟩
 | .dZ l,v,⟨vs,h1,h2⟩=>⟨vs,aQ.le h l vs h1,h2⟩
theorem aQ.le {c c':Ctx} (h:Le c c'):∀(l:List SVal) (vs:List Value),aQ c l vs->aQ c' l vs
 |[],_,e=>e
 |s::r,vs,⟨v,l,h1,h2,h3⟩=>⟨v,l,Den.le h s v h1,aQ.le h r l h2,h3⟩
theorem b7.le {c c':Ctx} (h:Le c c') (b:Nat):∀(row:List SVal) (i:Nat),b7 c b row i->b7 c' b row i
 |[],_,_=>trivial
 |s::r,i,⟨⟨u,h1,h0,h2⟩,h3⟩=>⟨⟨u,h.fz b i u h1,h0,Den.le h s u h2⟩,b7.le h b r (i+1) h3⟩
theorem bO.le {c c':Ctx} (h:Le c c') (b size:Nat):∀(rows:List (List SVal)) (i:Nat),bO c b size rows i->bO c' b size rows i
 |[],_,_=>trivial
 |row::r,i,⟨h1,h2,h3⟩=>⟨h1,b7.le h b row i h2,bO.le h b size r (i+size) h3⟩
end
theorem aQ.nil {c:Ctx} {vs:List Value}:aQ c [] vs↔vs=[]:=Xs
theorem aQ.cons {c:Ctx} {s:SVal} {r:List SVal} {vs:List Value}:aQ c (s::r) vs↔∃v l,Den c s v/\aQ c r l/\vs=v::l:=Xs
theorem aQ.length {c:Ctx}:∀{l:List SVal} {vs:List Value},aQ c l vs->vs.length=l.length
 |[],_,h=>by rw[aQ.nil.1 h];rfl
 |s::r,_,⟨v,l,_,hl,e⟩=>by subst e;simp[aQ.length hl]
theorem aQ.get {c:Ctx}:∀{l:List SVal} {vs:List Value} {i:Nat},aQ c l vs->∀{s},l[i]? =some s->∃v,vs[i]? =some v/\Den c s v
 |[],_,_,_,_,hs=>by simp at hs
 |s::r,vs,i,⟨v,l,hv,hl,e⟩,s',hs=>by
  subst e
  cases i with
  |zero=>simp at hs;subst hs;exact⟨v,rfl,hv⟩
  |succ i=>simp at hs;simpa using aQ.get hl hs
theorem aQ.append {c:Ctx}:∀{a b:List SVal} {vs:List Value},aQ c (a++b) vs↔∃x y,aQ c a x/\aQ c b y/\vs=x++y
 |[],b,vs=>by
  constructor
  ·exact fun h=>⟨[],vs,rfl,h,rfl⟩
  ·rintro⟨x,y,hx,hy,e⟩
   cases hx
   rw[e]
   exact hy
 |s::a,b,vs=>by
  rw[XM,aQ.cons]
  constructor
  ·rintro⟨v,l,hv,hl,rfl⟩
   obtain⟨x,y,hx,hy,rfl⟩:=aQ.append.1 hl
   exact⟨v::x,y,⟨v,x,hv,hx,rfl⟩,hy,rfl⟩
  ·rintro⟨x,y,⟨v,l,hv,hl,rfl⟩,hy,rfl⟩
   exact⟨v,l++y,hv,aQ.append.2 ⟨l,y,hl,hy,rfl⟩,rfl⟩
theorem aQ.o9 {c:Ctx}:∀{l:List SVal} {vs:List Value},vs.length=l.length->(∀(i:Nat) (s:SVal),l[i]? =some s->∃v,vs[i]? =some v/\Den c s v)->aQ c l vs
 |[],vs,hl,_=>Wn.1 hl
 |s::r,[],hl,_=>by simp at hl
 |s::r,v::vs,hl,h=>by
  obtain⟨v',hv',hd⟩:=h 0 s rfl
  simp at hv'
  subst hv'
  refine aQ.cons.2 ⟨v,vs,hd,aQ.o9 (by simpa using hl) fun i s' hs'=> ?_,rfl⟩
  simpa using h (i+1) s' (by simpa using hs')
theorem aQ.take {c:Ctx} {l:List SVal} {vs:List Value} (h:aQ c l vs) (n:Nat):aQ c (l.take n) (vs.take n):=by
 have hl:=h.length
 refine aQ.o9 (by simp[hl]) fun i s hs=> ?_
 rw[Xf] at hs
 split at hs
 ·rename_i hi
  obtain⟨v,hv,hd⟩:=h.get hs
  exact⟨v,by rw[Xf,HP hi];exact hv,hd⟩
 ·cases hs
theorem aQ.drop {c:Ctx} {l:List SVal} {vs:List Value} (h:aQ c l vs) (n:Nat):aQ c (l.drop n) (vs.drop n):=by
 have hl:=h.length
 refine aQ.o9 (by simp[hl]) fun i s hs=> ?_
 rw[Xj] at hs⊢
 exact h.get hs
def bX:SVal->List SVal
 | .agg l=>l
 |v=>[v]
def vU:SVal->Bool
 | .agg _=>false
 | .dZ _=>false
 |_=>true
theorem nZ {c:Ctx} {s:SVal} {v:Value} (h:vU s=true) (hd:Den c s v):v.oneCell'=true:=by
 cases s<;>simp only[vU,Xm] at h<;>try (cases hd;rfl)
 case ptr=>obtain⟨b,_,rfl⟩:=hd;rfl
 case fv=>obtain⟨⟨a,rfl⟩,_⟩:=hd;rfl
 case bR=>obtain⟨b,base,rfl,_⟩:=hd;rfl
 case aK=>
  rcases hd with⟨_,a,cap,rfl,_⟩|⟨b,base,size,cap,rfl,_⟩<;>rfl
 case own=>obtain⟨⟨a,n,cap,rfl⟩,_⟩:=hd;rfl
 case map=>obtain⟨b,_,rfl⟩:=hd;rfl
 case func fn x y=>
  cases fn<;>first
   |(obtain⟨b,_,rfl⟩:=hd;rfl)
   |(obtain⟨xs,ys,_,_,rfl⟩:=hd;rfl)
 case iface=>obtain⟨u,_,rfl⟩:=hd;rfl
theorem Eb {c:Ctx} {s:SVal} {v:Value} (h:vU s=true) (hd:Den c s v):v.cells= #[v]:=by
 have:=nZ h hd
 cases v<;>first|rfl|(cases this)
theorem dX {c:Ctx} {s:SVal} {v:Value} (h:Den c s v):aQ c (bX s) v.cells.toList:=by
 cases hf:vU s with
 |true=>
  have e:bX s=[s]:=by cases s<;>first|rfl|(cases hf)
  rw[e,Eb hf h]
  exact⟨v,[],h,rfl,rfl⟩
 |false=>
  cases s<;>simp only[vU,reduceCtorEq] at hf
  ·obtain⟨vs,h1,rfl⟩:=h
   simpa[bX,Value.cells] using h1
  ·obtain⟨vs,h1,rfl⟩:=h
   exact⟨_,[],⟨vs,h1,rfl⟩,rfl,rfl⟩
def sF (l:List SVal):Prop:=∀s∈l,vU s=true
theorem kF {c:Ctx} {l:List SVal} {vs:List Value} (h:sF l) (hd:aQ c l vs):∀v∈vs,v.oneCell'=true:=by
 intro v hv
 obtain⟨i,hi⟩:=Yi hv
 have hl:=hd.length
 have:i<l.length:=by rw[<-hl];exact(VZ.1 hi).1
 obtain⟨u,hu,hd'⟩:=hd.get (VV this)
 rw[hi] at hu
 cases hu
 exact nZ (h _ (WC this)) hd'
def dF:Fn->Bool
 | .yield _=>false
 |_=>true
mutual
def closed:SVal->Bool
 | .ptr _ _=>false
 | .fv _ _ _ _=>false
 | .own _ _=>false
 | .map _=>false
 | .bR row _=>aB row
 | .aK _ rows=>aL rows
 | .func fn x y=>dF fn&&aB x&&aB y
 | .iface _ v=>closed v
 | .agg l=>aB l
 | .dZ l=>aB l
 |_=>true
def aB:List SVal->Bool
 |[]=>true
 |s::r=>closed s&&aB r
def aL:List (List SVal)->Bool
 |[]=>true
 |row::r=>aB row&&aL r
end
mutual
theorem Den.free {c c':Ctx} (h:∀b i v,c.fz b i=some v->c'.fz b i=some v):∀(s:SVal) (v:Value),closed s=true->Den c s v->Den c' s v
 | .bool _,_,_,e=>e
 | .int _ _,_,_,e=>e
 | .str _,_,_,e=>e
 | .nilPtr,_,_,e=>e
 | .ptr _ _,_,k,_=>by cases k
 | .fv _ _ _ _,_,k,_=>by cases k
 | .bR row off,v,k,⟨b,base,h1,h2⟩=>⟨b,base,h1,b7.free h b row base k h2⟩
 | .aD,_,_,e=>e
 | .aK full rows,v,k,e=>by
  rcases e with e|⟨b,base,size,cap,h1,h2,h3,h4⟩
  ·exact .inl e
  ·exact .inr ⟨b,base,size,cap,h1,h2,h3,bO.free h b size rows base k h4⟩
 | .own _ _,_,k,_=>by cases k
 | .eJ,_,_,e=>e
 | .map _,_,k,_=>by cases k
 | .func fn x y,v,k,e=>by
  rw[closed,Wa,Wa] at k
  cases fn<;>first
   |(obtain⟨xs,ys,h1,h2,h3⟩:=e;exact⟨xs,ys,aQ.free h x xs k.1.2 h1,aQ.free h y ys k.2 h2,h3⟩)
   |(simp[dF] at k)
 | .fY,_,_,e=>e
 | .nilIface,_,_,e=>e
 | .iface t s,v,k,⟨u,h1,h2⟩=>⟨u,Den.free h s u k h1,h2⟩
 | .agg l,v,k,⟨vs,h1,h2⟩=>⟨vs,aQ.free h l vs k h1,h2⟩
 | .dZ l,v,k,⟨vs,h1,h2⟩=>⟨vs,aQ.free h l vs k h1,h2⟩
theorem aQ.free {c c':Ctx} (h:∀b i v,c.fz b i=some v->c'.fz b i=some v):∀(l:List SVal) (vs:List Value),aB l=true->aQ c l vs->aQ c' l vs
 |[],_,_,e=>e
 |s::r,vs,k,⟨v,l,h1,h2,h3⟩=>by
  rw[aB,Wa] at k
  exact⟨v,l,Den.free h s v k.1 h1,aQ.free h r l k.2 h2,h3⟩
theorem b7.free {c c':Ctx} (h:∀b i v,c.fz b i=some v->c'.fz b i=some v) (b:Nat):∀(row:List SVal) (i:Nat),aB row=true->b7 c b row i->b7 c' b row i
 |[],_,_,_=>trivial
 |s::r,i,k,⟨⟨u,h1,h0,h2⟩,h3⟩=>by
  rw[aB,Wa] at k
  exact⟨⟨u,h b i u h1,h0,Den.free h s u k.1 h2⟩,b7.free h b r (i+1) k.2 h3⟩
theorem bO.free {c c':Ctx} (h:∀b i v,c.fz b i=some v->c'.fz b i=some v) (b size:Nat):∀(rows:List (List SVal)) (i:Nat),aL rows=true->bO c b size rows i->bO c' b size rows i
 |[],_,_,_=>trivial
 |row::r,i,k,⟨h1,h2,h3⟩=>by
  rw[aL,Wa] at k
  exact⟨h1,b7.free h b row i k.1 h2,bO.free h b size r (i+size) k.2 h3⟩
end
theorem b7.get {c:Ctx} {b:Nat}:∀{row:List SVal} {i j:Nat} {s:SVal},b7 c b row i->row[j]? =some s->∃u,c.fz b (i+j)=some u/\u.oneCell'=true/\Den c s u
 |[],_,_,_,_,h=>by simp at h
 |s::r,i,0,s',⟨h1,_⟩,h=>by simp at h;subst h;exact h1
 |s::r,i,j+1,s',⟨_,h2⟩,h=>by
  obtain⟨u,h3,h4⟩:=b7.get h2 (show r[j]? =some s' by simpa using h)
  exact⟨u,by rw[<-h3];congr 1;omega,h4⟩
theorem b7.of {c:Ctx} {b:Nat}:∀{row:List SVal} {i:Nat},(∀j s,row[j]? =some s->∃u,c.fz b (i+j)=some u/\u.oneCell'=true/\Den c s u)->b7 c b row i
 |[],_,_=>trivial
 |s::r,i,h=>⟨by simpa using h 0 s rfl,b7.of fun j s' hs=>by
  obtain⟨u,h1,h2⟩:=h (j+1) s' (by simpa using hs)
  exact⟨u,by rw[<-h1];congr 1;omega,h2⟩⟩
theorem bO.get {c:Ctx} {b size:Nat}:∀{rows:List (List SVal)} {i j:Nat} {row:List SVal},bO c b size rows i->rows[j]? =some row->row.length=size/\b7 c b row (i+j*size)
 |[],_,_,_,_,h=>by simp at h
 |row::r,i,0,row',⟨h1,h2,_⟩,h=>by simp at h;subst h;exact⟨h1,by simpa using h2⟩
 |row::r,i,j+1,row',⟨_,_,h3⟩,h=>by
  obtain⟨h4,h5⟩:=bO.get h3 (show r[j]? =some row' by simpa using h)
  exact⟨h4,by rw[WZ,XG,<-Xt,Yr];exact h5⟩
theorem bO.of {c:Ctx} {b size:Nat}:∀{rows:List (List SVal)} {i:Nat},(∀j row,rows[j]? =some row->row.length=size/\b7 c b row (i+j*size))->bO c b size rows i
 |[],_,_=>trivial
 |row::r,i,h=>by
  obtain⟨h1,h2⟩:=h 0 row rfl
  refine⟨h1,by simpa using h2,bO.of fun j row' hr=> ?_⟩
  obtain⟨h3,h4⟩:=h (j+1) row' (by simpa using hr)
  exact⟨h3,by rw[WZ,XG,<-Xt,Yr] at h4;exact h4⟩
end Sv
namespace Sv
open Go
structure Fr where
 n:Nat
 t:List (Nat×SVal)
structure jq where
 fr:Fr
 ps:List Nat
 assign:Code
 body:Code
 state:Nat
 lS:Option Code
inductive bo where
 |cells (l:List SVal)
 |still (l:List SVal)
 |row (m:Nat) (rows:List (List SVal)) (s:Nat) (froz:Bool)
 |map (es:List (SVal×SVal))
 |loop (r:jq)
 |lU (g:Nat) (l:List SVal)
abbrev Hp:=List (Nat×bo)
noncomputable def bB {α:Type} (t:List (Nat×α)) (n:Nat):Option α:=
 List.rec (motive:=fun _=>Option α) none (fun p _ ih=>Prod.rec (fun k v=>Bool.rec ih (some v) (Nat.beq k n)) p) t
noncomputable def iS {α:Type} (t:List (Nat×α)) (n:Nat) (x:α):List (Nat×α):=
 List.rec (motive:=fun _=>List (Nat×α)) [(n,x)] (fun p r ih=>Bool.rec (p::ih) ((n,x)::r) (Nat.beq p.1 n)) t
noncomputable def Hf {α:Type} (t:List (Nat×α)) (n:Nat):List (Nat×α):=
 List.rec (motive:=fun _=>List (Nat×α)) [] (fun p _ ih=>Bool.rec (p::ih) ih (Nat.beq p.1 n)) t
theorem Xy {a b:Nat} (h:Nat.beq a b=true):a=b:=WE h
theorem rS {a b:Nat} (h:a=b):Nat.beq a b=true:=by subst h;exact Yu a
theorem pE {a b:Nat} (h:a≠b):Nat.beq a b=false:=by
 cases e:Nat.beq a b with
 |false=>rfl
 |true=>exact absurd (WE e) h
theorem beq_false {a b:Nat} (h:Nat.beq a b=false):a≠b:=fun e=>by rw[rS e] at h;cases h
theorem cU {a b:Nat} (h:Nat.ble a b=true):a<=b:=Ww h
theorem oj {a b:Nat} (h:Nat.ble a b=false):b<a:=by
 rcases WI b a with hl|hl
 ·exact hl
 ·rw[XD hl] at h;cases h
section
variable {α:Type}
theorem b9 (p:Nat×α) (r:List (Nat×α)) (n:Nat):bB (p::r) n=if p.1=n then some p.2 else bB r n:=by
 show @Bool.rec (fun _=>Option α) (bB r n) (some p.2) (Nat.beq p.1 n)=_
 by_cases h:p.1=n
 ·rw[HP h,rS h]
 ·rw[TP h,pE h]
theorem LF (p:Nat×α) (r:List (Nat×α)) (n:Nat) (x:α):iS (p::r) n x=if p.1=n then(n,x)::r else p::iS r n x:=by
 show @Bool.rec (fun _=>List (Nat×α)) (p::iS r n x) ((n,x)::r) (Nat.beq p.1 n)=_
 by_cases h:p.1=n
 ·rw[HP h,rS h]
 ·rw[TP h,pE h]
theorem LH (p:Nat×α) (r:List (Nat×α)) (n:Nat):Hf (p::r) n=if p.1=n then Hf r n else p::Hf r n:=by
 show @Bool.rec (fun _=>List (Nat×α)) (p::Hf r n) (Hf r n) (Nat.beq p.1 n)=_
 by_cases h:p.1=n
 ·rw[HP h,rS h]
 ·rw[TP h,pE h]
theorem E5 (n:Nat) (x:α) (m:Nat):∀t:List (Nat×α),bB (iS t n x) m=if m=n then some x else bB t m
 |[]=>by
  show bB [(n,x)] m=_
  rw[b9]
  by_cases h:n=m
  ·subst h;simp
  ·rw[TP h,TP (XF h)]
 |p::r=>by
  rw[LF]
  by_cases h:p.1=n
  ·rw[HP h,b9,b9]
   by_cases e:n=m
   ·subst e;simp
   ·rw[TP e,TP (XF e),TP (by rw[h];exact e)]
  ·rw[TP h,b9,b9,E5 n x m r]
   by_cases e:m=n
   ·subst e;simp[h]
   ·simp[e]
theorem w7 (n m:Nat):∀t:List (Nat×α),bB (Hf t n) m=if m=n then none else bB t m
 |[]=>by show none=_;split<;>rfl
 |p::r=>by
  rw[LH]
  by_cases h:p.1=n
  ·rw[HP h,w7 n m r,b9]
   by_cases e:m=n
   ·simp[e]
   ·rw[TP e,TP e,TP (by rw[h];exact XF e)]
  ·rw[TP h,b9,b9,w7 n m r]
   by_cases e:m=n
   ·subst e;simp[h]
   ·simp[e]
end
structure St where
 heap:Hp
 next:Nat
 mark:Nat
 log:List Nat
 cE:List (Nat×Nat)
noncomputable def ck (k:Nat) (l:List (Nat×Nat)):Bool:=
 List.rec (motive:=fun _=>Bool) false (fun p _ ih=>Bool.rec ih (Bool.rec ih true (Nat.ble (Nat.succ k) p.2)) (Nat.ble p.1 k)) l
abbrev gy:=Nat->Option bo
namespace St
noncomputable def look (st:St) (k:Nat):Option bo:=Bool.rec (bB st.heap k) none (ck k st.cE)
noncomputable def note (st:St) (k:Nat):List Nat:=Bool.rec st.log (k::st.log) (Nat.ble (Nat.succ k) st.mark)
noncomputable def put (st:St) (k:Nat) (o:bo):St:=⟨iS st.heap k o,st.next,st.mark,st.note k,st.cE⟩
noncomputable def drop (st:St) (k:Nat):St:=⟨Hf st.heap k,st.next,st.mark,st.note k,st.cE⟩
def fresh (st:St) (o:bo):St:=⟨(st.next,o)::st.heap,st.next+1,st.mark,st.log,st.cE⟩
end St
theorem look_eq (st:St) (k:Nat):st.look k=if ck k st.cE=true then none else bB st.heap k:=by
 unfold St.look
 cases ck k st.cE<;>rfl
theorem cT {st:St} {k:Nat} {o:bo} (h:st.look k=some o):bB st.heap k=some o/\ck k st.cE=false:=by
 rw[look_eq] at h
 cases hb:ck k st.cE with
 |true=>rw[hb] at h;cases h
 |false=>rw[hb] at h;exact⟨h,rfl⟩
def iO:Loc->Option Nat
 | .box b=>some b
 | .row b _ _ _=>b
noncomputable def Fr.get (fr:Fr) (t:Nat):Option SVal:=bB fr.t t
def mW (c:Ctx) (fr:Fr) (tmps:Array Value):Prop:=tmps.size=fr.n/\∀t s,fr.get t=some s->∃v,tmps[t]? =some v/\Den c s v
theorem mW.le {c c':Ctx} {fr:Fr} {tmps:Array Value} (h:mW c fr tmps) (hle:Le c c'):mW c' fr tmps:=
 ⟨h.1,fun t s hs=>let⟨v,h1,h2⟩:=h.2 t s hs;⟨v,h1,Den.le hle _ _ h2⟩⟩
def tw:Nat->LoopState
 |0=> .ready
 |1=> .busy
 |_=> .done
noncomputable def jB (c:Code):Bool:=
 Code.rec (motive:=fun _=>Bool) true (fun _ _ _=>true) (fun _ _ a b=>Bool.rec false b a) (fun _ _ _ a b=>Bool.rec false b a) (fun _ _ a=>a) (fun _ a=>a) (fun _ _ _ _ _ _=>false) (fun _=>true)
  (fun _ a=>a) (fun _=>true) (fun _=>true) true (fun _=>true) c
structure sW (c:Ctx) (r:jq) (l:Loop):Prop where
 r9:mW c r.fr l.tmps
 ps:l.params=r.ps.toArray
 assign:l.assign=r.assign
 body:l.body=r.body
 state:l.state=tw r.state
 lS:l.pending=r.lS
 one:jB r.assign=true
 two:jB r.body=true
def nc (c:Ctx) (es:List (SVal×SVal)) (l:List MapEntry):Prop:=
 l.length=es.length/\∀(i:Nat) (p:SVal×SVal),es[i]? =some p->∃e,l[i]? =some e/\Den c p.1 e.key/\Den c p.2 e.val
def ez (c:Ctx) (rows:List (List SVal)) (sz:Nat) (arr:Array Value):Prop:=
 ∀i row,rows[i]? =some row->row.length=sz/\∀j s,row[j]? =some s->∃v,arr[i*sz+j]? =some v/\v.oneCell'=true/\Den c s v
structure Jx (c:Ctx) (rows:List (List SVal)) (froz:Bool) (b sz:Nat) (u:Value) (w:World) (arr:Array Value) (e:TypeId) (cap:Nat):Prop where
 val:u= .slice (some ⟨b,0,none⟩) rows.length cap
 cells:w.heap[b]? =some (.cells arr e (0,0))
 size:arr.size=cap*sz
 fits:rows.length<=cap
 elems:ez c rows sz arr
 fz:∀i v,c.fz b i=some v->froz=true/\i<rows.length*sz
def eT (c:Ctx) (o:bo) (l:Loc) (w:World):Prop:=
 match o,l with
 | .cells cs,.box b=>∃arr e,w.heap[b]? =some (.cells arr e (0,0))/\aQ c cs arr.toList/\∀i v,c.fz b i≠some v
 | .still cs,.box b=>∃arr e,w.heap[b]? =some (.cells arr e (0,0))/\aQ c cs arr.toList/\∀(i:Nat) (v:Value),arr[i]? =some v->c.fz b i=some v
 | .row m rows s froz,.row ob st sz u=>st=s/\sz=m/\match ob with
  |none=>rows=[]/\∃a,u= .slice a 0 0
  |some b=>∃arr e cap,Jx c rows froz b sz u w arr e cap
 | .map es,.box b=>∃ents clock,w.heap[b]? =some (.map ents clock)/\nc c es ents.toList
 | .loop r,.box b=>∃x,w.heap[b]? =some (.loop x)/\sW c r x
 | .lU g cs,.row ob st _ u=>ob=some g/\st=0/\∃arr e f,u= .tuple #[.int .i64 (e:Nat),.int .i64 (f.1:Nat),.int .i64 (f.2:Nat)]/\w.heap[g]? =some (.cells arr e f)/\aQ c cs arr.toList
 |_,_=>False
def fU (c:Ctx) (H:gy) (r:Nat):Prop:=∃k o l,H k=some o/\c.ρ k=some l/\iO l=some r
structure dM (c:Ctx) (H:gy) (w:World):Prop where
 dO:∀k o,H k=some o->∃l,c.ρ k=some l/\eT c o l w
 sep:∀k j o o' l l' r,H k=some o->H j=some o'->k≠j->c.ρ k=some l->c.ρ j=some l'->iO l=some r->iO l'≠some r
 fz:∀b i v,c.fz b i=some v->∃arr e f,w.heap[b]? =some (.cells arr e f)/\arr[i]? =some v
structure Step (lo hi:Nat) (c:Ctx) (H:gy) (w:World) (c':Ctx) (H':gy) (w':World):Prop where
 le:Le c c'
 off:∀k,k<lo\/hi<=k->c.ρ k=none->c'.ρ k=none
 hid:∀k l,H k=none->c.ρ k=some l->H' k=none/\c'.ρ k=some l
 os:w'.os=w.os
 tape:w'.tape=w.tape
 output:w'.output=w.output
 size:w.heap.size<=w'.heap.size
 kept:∀r,r<w.heap.size->¬fU c H r->w'.heap[r]? =w.heap[r]?
 owns:∀r,fU c' H' r->fU c H r\/w.heap.size<=r
 xV:∀b i v,c'.fz b i=some v->c.fz b i=some v\/fU c H b\/w.heap.size<=b
def pH (c:Ctx) (lo hi:Nat):Prop:=∀k,lo<=k->k<hi->c.ρ k=none
structure eS (st st':St):Prop where
 cE:st'.cE=st.cE
 mark:st'.mark=st.mark
 next:st.next<=st'.next
 log:∀n∈st.log,n∈st'.log
 same:∀k,k<st.next->k<st.mark->k∉st'.log->bB st'.heap k=bB st.heap k
 wf:(∀k,st.next<=k->bB st.heap k=none)->∀k,st'.next<=k->bB st'.heap k=none
 LQ:∀n∈st'.log,n∈st.log\/(ck n st.cE=false/\n<st.mark)
theorem eS.refl (st:St):eS st st:=⟨rfl,rfl,V2 _,fun _ h=>h,fun _ _ _ _=>rfl,fun h=>h,fun _ h=> .inl h⟩
theorem eS.trans {a b c:St} (h:eS a b) (k:eS b c):eS a c:=
 ⟨k.cE.trans h.cE,k.mark.trans h.mark,Wq h.next k.next,fun n hn=>k.log n (h.log n hn),
  fun n h1 h2 h3=>(k.same n (Xe h1 h.next) (h.mark▸h2) h3).trans (h.same n h1 h2 fun e=>h3 (k.log n e)),fun h0=>k.wf (h.wf h0),
  fun n hn=>(k.LQ n hn).elim (h.LQ n) (fun hb=> .inr ⟨h.cE▸hb.1,h.mark▸hb.2⟩)⟩
structure Wf (st:St):Prop where
 none:∀k,st.next<=k->bB st.heap k=none
 cE:∀k,ck k st.cE=true->k<st.next
 mark:st.mark<=st.next
theorem Wf.eX {st st':St} (h:Wf st) (k:eS st st'):Wf st':=⟨k.wf h.none,fun n hn=>Xe (h.cE n (k.cE▸hn)) k.next,by rw[k.mark];exact Wq h.mark k.next⟩
theorem Step.refl (n:Nat) (c:Ctx) (H:gy) (w:World):Step n n c H w c H w:=
 ⟨Le.refl c,fun _ _ h=>h,fun _ _ h h'=>⟨h,h'⟩,rfl,rfl,rfl,V2 _,fun _ _ _=>rfl,fun _ h=> .inl h,fun _ _ _ h=> .inl h⟩
theorem Step.trans' {lo hi:Nat} {c c1 c2:Ctx} {H H1 H2:gy} {w w1 w2:World} (h:Step lo hi c H w c1 H1 w1) (k:Step lo hi c1 H1 w1 c2 H2 w2):Step lo hi c H w c2 H2 w2 where
 le:=h.le.trans k.le
 off:=fun n hn e=>k.off n hn (h.off n hn e)
 hid:=fun n l e e'=>let⟨h1,h2⟩:=h.hid n l e e';k.hid n l h1 h2
 os:=k.os.trans h.os
 tape:=k.tape.trans h.tape
 output:=k.output.trans h.output
 size:=Wq h.size k.size
 kept:=fun r hr hn=>(k.kept r (Xe hr h.size) fun ho=>(h.owns r ho).elim hn (fun h'=>by omega)).trans (h.kept r hr hn)
 owns:=fun r ho=>(k.owns r ho).elim (h.owns r) (fun h'=> .inr (Wq h.size h'))
 xV:=fun b i v e=>by
  rcases k.xV b i v e with h1|h1|h1
  ·exact h.xV b i v h1
  ·exact .inr (h.owns b h1)
  ·exact .inr (.inr (Wq h.size h1))
theorem Step.wide {a b a' b':Nat} {c c':Ctx} {H H':gy} {w w':World} (h:Step a b c H w c' H' w') (h1:a'<=a) (h2:b<=b'):Step a' b' c H w c' H' w':=
 ⟨h.le,fun k hk=>h.off k ii,h.hid,h.os,h.tape,h.output,h.size,h.kept,h.owns,h.xV⟩
theorem Step.trans {a b d:Nat} {c c1 c2:Ctx} {H H1 H2:gy} {w w1 w2:World} (h:Step a b c H w c1 H1 w1) (k:Step b d c1 H1 w1 c2 H2 w2) (hab:a<=b) (hbd:b<=d):Step a d c H w c2 H2 w2:=
 (h.wide (V2 _) hbd).trans' (k.wide hab (V2 _))
theorem pH.mono {c:Ctx} {a b a' b':Nat} (h:pH c a b) (h1:a<=a') (h2:b'<=b):pH c a' b':=fun k hk hk'=>h k ii ii
theorem pH.step {a b d:Nat} {c c':Ctx} {H H':gy} {w w':World} (h:pH c a d) (k:Step a b c H w c' H' w') (hab:a<=b):pH c' b d:=fun n hn hn'=>k.off n ii (h n ii hn')
theorem nc.le {c c':Ctx} (h:Le c c') {es:List (SVal×SVal)} {l:List MapEntry} (k:nc c es l):nc c' es l:=
 ⟨k.1,fun i p hp=>let⟨e,h1,h2,h3⟩:=k.2 i p hp;⟨e,h1,Den.le h _ _ h2,Den.le h _ _ h3⟩⟩
theorem ez.le {c c':Ctx} (h:Le c c') {rows:List (List SVal)} {sz:Nat} {arr:Array Value} (k:ez c rows sz arr):ez c' rows sz arr:=fun i row hr=>
 ⟨(k i row hr).1,fun j s hs=>let⟨v,h1,h0,h2⟩:=(k i row hr).2 j s hs;⟨v,h1,h0,Den.le h _ _ h2⟩⟩
theorem sW.le {c c':Ctx} (h:Le c c') {r:jq} {l:Loop} (k:sW c r l):sW c' r l:=⟨k.r9.le h,k.ps,k.assign,k.body,k.state,k.lS,k.one,k.two⟩
theorem eT.s9 {c c':Ctx} {o:bo} {l:Loc} {w w':World} (h:eT c o l w) (hle:Le c c') (hk:∀b,iO l=some b->w'.heap[b]? =w.heap[b]?) (hf:∀b,iO l=some b->∀i v,c'.fz b i=some v->c.fz b i=some v):eT c' o l w':=by
 cases o with
 |cells cs=>cases l with
  |row=>exact h.elim
  |box b=>
   obtain⟨arr,e,h1,h2,h3⟩:=h
   exact⟨arr,e,(hk b rfl).trans h1,aQ.le hle _ _ h2,fun i v hv=>h3 i v (hf b rfl i v hv)⟩
 |still cs=>cases l with
  |row=>exact h.elim
  |box b=>
   obtain⟨arr,e,h1,h2,h3⟩:=h
   exact⟨arr,e,(hk b rfl).trans h1,aQ.le hle _ _ h2,fun i v hv=>hle.fz _ _ _ (h3 i v hv)⟩
 |row m rows s froz=>cases l with
  |box b=>exact h.elim
  |row ob st sz u=>
   refine⟨h.1,h.2.1,?_⟩
   have h2:=h.2.2
   cases ob with
   |none=>exact h2
   |some b=>
    obtain⟨arr,e,cap,h3⟩:=h2
    exact⟨arr,e,cap,h3.val,(hk b rfl).trans h3.cells,h3.size,h3.fits,h3.elems.le hle,fun i v hv=>h3.fz i v (hf b rfl i v hv)⟩
 |map es=>cases l with
  |row=>exact h.elim
  |box b=>
   obtain⟨ents,clock,h1,h2⟩:=h
   exact⟨ents,clock,(hk b rfl).trans h1,h2.le hle⟩
 |loop r=>cases l with
  |row=>exact h.elim
  |box b=>
   obtain⟨x,h1,h2⟩:=h
   exact⟨x,(hk b rfl).trans h1,h2.le hle⟩
 |lU g cs=>cases l with
  |box=>exact h.elim
  |row ob st sz u=>
   obtain⟨h0,h3,arr,e,f,h4,h1,h2⟩:=h
   subst h0
   exact⟨rfl,h3,arr,e,f,h4,(hk g rfl).trans h1,aQ.le hle _ _ h2⟩
theorem eT.lt {c:Ctx} {o:bo} {l:Loc} {w:World} (h:eT c o l w) {b:Nat} (hb:iO l=some b):b<w.heap.size:=by
 have:∃x,w.heap[b]? =some x:=by
  cases o with
  |cells cs=>cases l with
   |row=>exact h.elim
   |box b=>cases hb;obtain⟨arr,e,h1,_⟩:=h;exact⟨_,h1⟩
  |still cs=>cases l with
   |row=>exact h.elim
   |box b=>cases hb;obtain⟨arr,e,h1,_⟩:=h;exact⟨_,h1⟩
  |row m rows s froz=>cases l with
   |box b=>exact h.elim
   |row ob st sz u=>cases hb;obtain⟨_,_,arr,e,cap,h1⟩:=h;exact⟨_,h1.cells⟩
  |map es=>cases l with
   |row=>exact h.elim
   |box b=>cases hb;obtain⟨ents,clock,h1,_⟩:=h;exact⟨_,h1⟩
  |loop r=>cases l with
   |row=>exact h.elim
   |box b=>cases hb;obtain⟨x,h1,_⟩:=h;exact⟨_,h1⟩
  |lU g cs=>cases l with
   |box=>exact h.elim
   |row ob st sz u=>obtain⟨h0,_,arr,e,f,_,h1,_⟩:=h;subst h0;cases hb;exact⟨_,h1⟩
 obtain⟨x,hx⟩:=this
 exact(Wl.1 hx).1
theorem fU.lt {c:Ctx} {H:gy} {w:World} (h:dM c H w) {r:Nat} (k:fU c H r):r<w.heap.size:=by
 obtain⟨n,o,l,h1,h2,h3⟩:=k
 obtain⟨l',h4,h5⟩:=h.dO n o h1
 rw[h2] at h4
 cases h4
 exact h5.lt h3
theorem D6 {c:Ctx} {H:gy} {w:World} (h:dM c H w) {b i:Nat} {v:Value} (k:c.fz b i=some v):b<w.heap.size:=by
 obtain⟨arr,e,f,h1,_⟩:=h.fz b i v k
 exact(Wl.1 h1).1
theorem dM.heap {c:Ctx} {H:gy} {w w':World} (h:dM c H w) (e:w'.heap=w.heap):dM c H w':=
 ⟨fun k o hk=>let⟨l,h1,h2⟩:=h.dO k o hk;⟨l,h1,h2.s9 (Le.refl c) (fun b _=>by rw[e]) fun _ _ _ _ hv=>hv⟩,h.sep,fun b i v hv=>by rw[e];exact h.fz b i v hv⟩
theorem dM.draw {c:Ctx} {H:gy} {w:World} (h:dM c H w) (n:Nat):dM c H {w with drawn:=n}:=h.heap rfl
theorem Step.draw {lo hi:Nat} {c c':Ctx} {H H':gy} {w w':World} (h:Step lo hi c H w c' H' w') (n:Nat):Step lo hi c H w c' H' {w' with drawn:=n}:=
 ⟨h.le,h.off,h.hid,h.os,h.tape,h.output,h.size,h.kept,h.owns,h.xV⟩
theorem Step.drawn (lo:Nat) (c:Ctx) (H:gy) (w:World) (n:Nat):Step lo lo c H w c H {w with drawn:=n}:=(Step.refl lo c H w).draw n
theorem nY (st:St) (o:bo) (m:Nat):bB (st.fresh o).heap m=if m=st.next then some o else bB st.heap m:=by
 show bB ((st.next,o)::st.heap) m=_
 rw[b9]
 by_cases h:m=st.next
 ·rw[HP h,HP h.symm]
 ·rw[TP h,TP (XF h)]
theorem dE (st:St) (o:bo):eS st (st.fresh o):=by
 refine⟨rfl,rfl,XI _,fun n hn=>hn,fun n h7 _ _=>by rw[nY,TP ii],fun hw n hn=> ?_,fun n hn=> .inl hn⟩
 have hn:st.next+1<=n:=hn
 rw[nY,TP ii]
 exact hw n ii
theorem gR (st:St) (o:bo) {m:Nat} (h:m≠st.next):(st.fresh o).look m=st.look m:=by
 rw[look_eq,look_eq,nY,TP h];rfl
def ir (c:Ctx) (k:Nat) (l:Loc):Ctx:=⟨fun n=>if n=k then some l else c.ρ n,c.fz⟩
theorem cI (c:Ctx) (k:Nat) (l:Loc):(ir c k l).ρ k=some l:=by simp[ir]
theorem gw (c:Ctx) {k n:Nat} (l:Loc) (h:n≠k):(ir c k l).ρ n=c.ρ n:=by simp[ir,h]
theorem qK {c:Ctx} {k:Nat} (l:Loc) (h:c.ρ k=none):Le c (ir c k l):=⟨fun n x e=>by
 by_cases e2:n=k
 ·subst e2;rw[h] at e;cases e
 ·exact⟨x,by rw[gw c l e2];exact e,dJ.refl x⟩,fun _ _ _ h=>h⟩
structure dj (w w':World):Prop where
 os:w'.os=w.os
 tape:w'.tape=w.tape
 output:w'.output=w.output
 size:w.heap.size<=w'.heap.size
 old:∀r,r<w.heap.size->w'.heap[r]? =w.heap[r]?
theorem dj.refl (w:World):dj w w:=⟨rfl,rfl,rfl,V2 _,fun _ _=>rfl⟩
theorem dj.alloc (w:World) (o:Obj):dj w (w.alloc o):=⟨rfl,rfl,rfl,by simp,fun r hr=>by show(w.heap.push o)[r]? =_;rw[Array.getElem?_push,TP ii]⟩
theorem dj.drew (w:World) (n:Nat):dj w {w with drawn:=n}:=⟨rfl,rfl,rfl,V2 _,fun _ _=>rfl⟩
theorem dj.trans {a b c:World} (h:dj a b) (k:dj b c):dj a c:=
 ⟨k.os.trans h.os,k.tape.trans h.tape,k.output.trans h.output,Wq h.size k.size,fun r hr=>(k.old r (Xe hr h.size)).trans (h.old r hr)⟩
theorem gQ {st:St} {o:bo} {c:Ctx} {w w':World} (hr:dM c st.look w) (hf:c.ρ st.next=none) (hwf:Wf st) {l:Loc} (g:dj w w') (hl:∀b,iO l=some b->w.heap.size<=b) (ho:eT (ir c st.next l) o l w'):
  dM (ir c st.next l) (st.fresh o).look w'/\Step st.next (st.fresh o).next c st.look w (ir c st.next l) (st.fresh o).look w':=by
 have hle:=qK l hf
 have new:∀o',(st.fresh o).look st.next=some o'->o'=o:=fun o' hm=>by
  have:=(cT hm).1
  rw[nY,HP rfl] at this
  exact(Wm this).symm
 have nn:∀m o',st.look m=some o'->m≠st.next:=fun m o' hm e=>by
  have:=(cT hm).1
  rw[e,hwf.none _ (V2 _)] at this
  cases this
 refine⟨⟨fun m o' hm=> ?_,fun m j o1 o2 l1 l2 r hm hj hne h1 h2 hb1 hb2=> ?_,fun b i v hv=> ?_⟩,⟨hle,fun k hk e=> ?_,fun k l' e e'=> ?_,g.os,g.tape,g.output,g.size,fun r hr' _=>g.old r hr',fun r ⟨m,o',l',hm,h1,h2⟩=> ?_,fun _ _ _ h=> .inl h⟩⟩
 ·by_cases e:m=st.next
  ·subst e
   cases new _ hm
   exact⟨l,cI _ _ _,ho⟩
  ·rw[gR st o e] at hm
   obtain⟨l',h7,h8⟩:=hr.dO m o' hm
   exact⟨l',by rw[gw c l e];exact h7,h8.s9 hle (fun b hb=>g.old b (h8.lt hb)) fun _ _ _ _ hv=>hv⟩
 ·by_cases e:m=st.next
  ·subst e
   rw[cI] at h1
   cases h1
   rw[gR st o (XF hne)] at hj
   rw[gw c l (XF hne)] at h2
   obtain⟨l3,h7,h8⟩:=hr.dO j o2 hj
   rw[h2] at h7
   cases h7
   have:=h8.lt hb2
   have:=hl r hb1
   omega
  ·rw[gR st o e] at hm
   rw[gw c l e] at h1
   by_cases e2:j=st.next
   ·subst e2
    rw[cI] at h2
    cases h2
    obtain⟨l3,h7,h8⟩:=hr.dO m o1 hm
    rw[h1] at h7
    cases h7
    have:=h8.lt hb1
    have:=hl r hb2
    omega
   ·rw[gR st o e2] at hj
    rw[gw c l e2] at h2
    exact hr.sep m j o1 o2 l1 l2 r hm hj hne h1 h2 hb1 hb2
 ·rw[g.old b (D6 hr hv)]
  exact hr.fz b i v hv
 ·rw[gw c l (by show k≠st.next;have:(st.fresh o).next=st.next+1:=rfl;omega)]
  exact e
 ·have hne:k≠st.next:=fun e2=>by subst e2;rw[hf] at e';cases e'
  exact⟨by rw[gR st o hne];exact e,by rw[gw c l hne];exact e'⟩
 ·by_cases e:m=st.next
  ·subst e
   rw[cI] at h1
   cases h1
   exact .inr (hl r h2)
  ·rw[gR st o e] at hm
   rw[gw c l e] at h1
   exact .inl ⟨m,o',l',hm,h1,h2⟩
theorem nF (st:St) (k:Nat) (o:bo) (m:Nat):bB (st.put k o).heap m=if m=k then some o else bB st.heap m:=E5 k o m st.heap
theorem qD (st:St) (k:Nat) (m:Nat):bB (st.drop k).heap m=if m=k then none else bB st.heap m:=w7 k m st.heap
theorem qa (st:St) (k:Nat):(∀n∈st.log,n∈st.note k)/\(k<st.mark->k∈st.note k):=by
 unfold St.note
 cases hb:Nat.ble (Nat.succ k) st.mark with
 |true=>exact⟨fun n hn=>VX _ hn,fun _=>V0⟩
 |false=>exact⟨fun n hn=>hn,fun h=>by have:=oj hb;omega⟩
theorem Dm {st:St} {k n:Nat} (h:n∈st.note k):n∈st.log\/(n=k/\n<st.mark):=by
 unfold St.note at h
 cases hb:Nat.ble (Nat.succ k) st.mark with
 |true=>
  rw[hb] at h
  rcases V9.1 h with h|h
  ·exact .inr ⟨h,by rw[h];exact cU hb⟩
  ·exact .inl h
 |false=>rw[hb] at h;exact .inl h
theorem dA {st:St} {k:Nat} (o:bo) {o':bo} (hlk:st.look k=some o'):eS st (st.put k o):=by
 have hk:=(cT hlk).1
 refine⟨rfl,rfl,V2 _,(qa st k).1,fun n _ hm hn=> ?_,fun hw n hn=> ?_,fun n hn=> ?_⟩
 ·rw[nF,TP (fun e=>by subst e;exact hn ((qa st n).2 hm))]
 ·rw[nF,TP (fun e=>by subst e;rw[hw n hn] at hk;cases hk)]
  exact hw n hn
 ·exact(Dm hn).imp id fun e=>⟨by rw[e.1];exact(cT hlk).2,e.2⟩
theorem OB {st:St} {k:Nat} {o':bo} (hlk:st.look k=some o'):eS st (st.drop k):=by
 refine⟨rfl,rfl,V2 _,(qa st k).1,fun n _ hm hn=> ?_,fun hw n hn=> ?_,fun n hn=> ?_⟩
 ·rw[qD,TP (fun e=>by subst e;exact hn ((qa st n).2 hm))]
 ·rw[qD];split
  ·rfl
  ·exact hw n hn
 ·exact(Dm hn).imp id fun e=>⟨by rw[e.1];exact(cT hlk).2,e.2⟩
theorem M5 {st:St} {k:Nat} (o:bo) {o':bo} (hlk:st.look k=some o'):(st.put k o).look k=some o:=by
 rw[look_eq,nF,HP rfl,show(st.put k o).cE=st.cE from rfl,(cT hlk).2];rfl
theorem fO {st:St} {k m:Nat} (o:bo) (h:m≠k):(st.put k o).look m=st.look m:=by
 rw[look_eq,look_eq,nF,TP h];rfl
structure TK (b:Option Nat) (w w':World):Prop where
 os:w'.os=w.os
 tape:w'.tape=w.tape
 output:w'.output=w.output
 size:w.heap.size<=w'.heap.size
 old:∀r,r<w.heap.size->b≠some r->w'.heap[r]? =w.heap[r]?
theorem dj.but {w w':World} (g:dj w w') (b:Option Nat):TK b w w':=⟨g.os,g.tape,g.output,g.size,fun r hr _=>g.old r hr⟩
theorem eP {st:St} {k:Nat} {o o':bo} {c c':Ctx} {w w':World} {l l':Loc} (hr:dM c st.look w) (hk:st.look k=some o) (hl:c.ρ k=some l) (hl':c'.ρ k=some l') (hll:dJ l l') (hρ:∀n,n≠k->c'.ρ n=c.ρ n)
  (hfz:∀b i v,c.fz b i=some v->c'.fz b i=some v) (hnew:∀b i v,c'.fz b i=some v->c.fz b i=some v\/iO l=some b) (hblk:∀r,iO l'=some r->iO l=some r\/w.heap.size<=r) (hw:TK (iO l) w w')
  (hok:∀b i v,iO l=some b->c'.fz b i=some v->∃arr e f,w'.heap[b]? =some (.cells arr e f)/\arr[i]? =some v) (ho:eT c' o' l' w'):
  dM c' (st.put k o').look w'/\Step st.next (st.put k o').next c st.look w c' (st.put k o').look w':=by
 have hle:Le c c':=⟨fun n x e=>by
  by_cases e2:n=k
  ·subst e2;rw[hl] at e;cases e;exact⟨l',hl',hll⟩
  ·exact⟨x,by rw[hρ n e2];exact e,dJ.refl x⟩,hfz⟩
 obtain⟨l0,hl0,hat⟩:=hr.dO k o hk
 rw[hl] at hl0
 cases hl0
 have other:∀m om lm,m≠k->st.look m=some om->c.ρ m=some lm->∀b,iO lm=some b->iO l≠some b:=fun m om lm hm h1 h2 b hb e=>hr.sep k m o om l lm b hk h1 (XF hm) hl h2 e hb
 refine⟨⟨fun m om hm=> ?_,fun m j o1 o2 l1 l2 r hm hj hne h1 h2 hb1 hb2=> ?_,fun b i v hv=> ?_⟩,⟨hle,fun n _ e=> ?_,fun n x e e'=> ?_,hw.os,hw.tape,hw.output,hw.size,fun r hr' hn=> ?_,fun r ⟨m,om,lm,hm,h1,h2⟩=> ?_,fun b i v hv=> ?_⟩⟩
 ·by_cases e:m=k
  ·subst e
   rw[M5 o' hk] at hm
   cases hm
   exact⟨l',hl',ho⟩
  ·rw[fO o' e] at hm
   obtain⟨lm,h7,h8⟩:=hr.dO m om hm
   refine⟨lm,by rw[hρ m e];exact h7,h8.s9 hle (fun b hb=>hw.old b (h8.lt hb) (other m om lm e hm h7 b hb)) fun b hb i v hv=> ?_⟩
   rcases hnew b i v hv with h|h
   ·exact h
   ·exact absurd h (other m om lm e hm h7 b hb)
 ·have one:∀m om lm r,m≠k->(st.put k o').look m=some om->c'.ρ m=some lm->iO lm=some r->iO l'≠some r:=fun m om lm r hm h1 h2 hb e=>by
   rw[fO o' hm] at h1
   rw[hρ m hm] at h2
   rcases hblk r e with h|h
   ·exact other m om lm hm h1 h2 r hb h
   ·obtain⟨l3,h7,h8⟩:=hr.dO m om h1
    rw[h2] at h7
    cases h7
    have:=h8.lt hb
    omega
  by_cases e:m=k
  ·subst e
   rw[hl'] at h1
   cases h1
   exact one j o2 l2 r (XF hne) hj h2 hb2 hb1
  ·by_cases e2:j=k
   ·subst e2
    rw[hl'] at h2
    cases h2
    exact one m o1 l1 r e hm h1 hb1 hb2
   ·rw[fO o' e] at hm
    rw[fO o' e2] at hj
    rw[hρ m e] at h1
    rw[hρ j e2] at h2
    exact hr.sep m j o1 o2 l1 l2 r hm hj hne h1 h2 hb1 hb2
 ·rcases hnew b i v hv with h|h
  ·by_cases hb:iO l=some b
   ·exact hok b i v hb hv
   ·rw[hw.old b (D6 hr h) hb]
    exact hr.fz b i v h
  ·exact hok b i v h hv
 ·by_cases e2:n=k
  ·subst e2;rw[hl] at e;cases e
  ·rw[hρ n e2];exact e
 ·have hne:n≠k:=fun e2=>by subst e2;rw[hk] at e;cases e
  exact⟨by rw[fO o' hne];exact e,by rw[hρ n hne];exact e'⟩
 ·exact hw.old r hr' fun e=>hn ⟨k,o,l,hk,hl,e⟩
 ·by_cases e:m=k
  ·subst e
   rw[hl'] at h1
   cases h1
   exact(hblk r h2).imp (fun h=>⟨m,o,l,hk,hl,h⟩) id
  ·rw[fO o' e] at hm
   rw[hρ m e] at h1
   exact .inl ⟨m,om,lm,hm,h1,h2⟩
 ·exact(hnew b i v hv).imp id fun h=> .inl ⟨k,o,l,hk,hl,h⟩
theorem OC {st:St} {k:Nat} {c:Ctx} {w:World} (hr:dM c st.look w):dM c (st.drop k).look w/\Step st.next (st.drop k).next c st.look w c (st.drop k).look w:=by
 have old:∀m o,(st.drop k).look m=some o->m≠k/\st.look m=some o:=fun m o hm=>by
  rw[look_eq,qD,show(st.drop k).cE=st.cE from rfl] at hm
  split at hm
  ·cases hm
  ·rename_i hb
   split at hm
   ·cases hm
   ·rename_i hne;exact⟨hne,by rw[look_eq,TP hb];exact hm⟩
 refine⟨⟨fun m o hm=>hr.dO m o (old m o hm).2,fun m j o1 o2 l1 l2 r hm hj=>hr.sep m j o1 o2 l1 l2 r (old _ _ hm).2 (old _ _ hj).2,hr.fz⟩,
  ⟨Le.refl c,fun _ _ h=>h,fun n l e e'=>⟨?_,e'⟩,rfl,rfl,rfl,V2 _,fun _ _ _=>rfl,fun r ⟨m,o,l,hm,h1,h2⟩=> .inl ⟨m,o,l,(old _ _ hm).2,h1,h2⟩,fun _ _ _ h=> .inl h⟩⟩
 cases h:(st.drop k).look n with
 |none=>rfl
 |some o=>rw[(old n o h).2] at e;cases e
end Sv
namespace Sv
open Go Go.RowKit
inductive T (α:Type) where
 |nil
 |node (v:Option α) (l r:T α)
noncomputable def T.get {α:Type} (t:T α):Nat->Option α:=
 T.rec (motive:=fun _=>Nat->Option α) (fun _=>none)
  (fun v _ _ gl gr n=>Bool.rec (Bool.rec (gr (Nat.sub (Nat.div n 2) 1)) (gl (Nat.div n 2)) (Nat.beq (Nat.mod n 2) 1)) v (Nat.beq n 0)) t
structure Env where
 types:T TypeInfo
 funcs:T Func
 eqs:List TypeId
structure bz (P:Program) (E:Env):Prop where
 types:∀t i,E.types.get t=some i->P.info? t=some i
 funcs:∀f fn,E.funcs.get f=some fn->P.funcs[f]? =some fn/\(fn.name== "runtime.NumGoroutine")=false
 mixed:P.follows .mixedOrders=true
 eqs:∀t∈E.eqs,P.stoodInHeld t=false/\P.eqGuardType P.depth t=false
noncomputable def eR {α β:Type} (x:Option α) (f:α->Option β):Option β:=Option.rec (motive:=fun _=>Option β) none f x
noncomputable def Af {α:Type} (b:Bool) (x:Option α):Option α:=Bool.rec (motive:=fun _=>Option α) none x b
theorem bm {α β:Type} {x:Option α} {f:α->Option β} {b:β}:eR x f=some b↔∃a,x=some a/\f a=some b:=by
 cases x with
 |none=>exact⟨fun h=>(by cases h),fun⟨_,h,_⟩=>(by cases h)⟩
 |some a=>exact⟨fun h=>⟨a,rfl,h⟩,fun⟨_,h,h2⟩=>(by cases h;exact h2)⟩
theorem eV {α:Type} {b:Bool} {x:Option α} {a:α}:Af b x=some a↔b=true/\x=some a:=by
 cases b with
 |false=>exact⟨fun h=>(by cases h),fun⟨h,_⟩=>(by cases h)⟩
 |true=>exact⟨fun h=>⟨rfl,h⟩,fun h=>h.2⟩
section
variable (E:Env)
noncomputable def pO (i:TypeInfo):Option TypeDesc:=
 match i.desc with
 | .named _ u=>eR (E.types.get u) fun j=>some j.desc
 |d=>some d
noncomputable def under (t:TypeId):Option TypeDesc:=eR (E.types.get t) fun i=>pO E i
noncomputable def cQ (t:TypeId):Option Nat:=eR (E.types.get t) fun i=>some i.size
noncomputable def mT (t:TypeId):Option Nat:=eR (E.types.get t) fun i=>some i.bytes
noncomputable def UO:TypeDesc->Bool
 | .struct _=>true
 | .array _ _=>true
 |_=>false
noncomputable def Mx:TypeDesc->Option TypeId
 | .slice e=>some e
 |_=>none
noncomputable def HK:TypeDesc->Option (List Field)
 | .struct fs=>some fs.toList
 |_=>none
noncomputable def KH:TypeDesc->Option (TypeId×TypeId)
 | .map k e=>some (k,e)
 |_=>none
noncomputable def PD (t:TypeId):Option Bool:=eR (under E t) fun d=>some (UO d)
noncomputable def dz (t:TypeId):Option TypeId:=eR (under E t) Mx
noncomputable def rG (t:TypeId) (f:Nat):Option Field:=eR (eR (under E t) HK) fun fs=>fs[f]?
end
section
variable {P:Program} {E:Env} (hE:bz P E)
include hE
theorem bZ {t:TypeId} {n:Nat} (h:cQ E t=some n):∃i,P.info? t=some i/\i.size=n/\∀w,(Go.sizeOf t).run P w= .ok n w:=by
 unfold cQ at h
 rw[bm] at h
 obtain⟨i,h1,h2⟩:=h
 cases h2
 have:=hE.types t i h1
 exact⟨i,this,rfl,fun w=>by simp[Go.sizeOf,typeInfo,this]⟩
theorem im {t:TypeId} {n:Nat} (h:mT E t=some n):∃i,P.info? t=some i/\i.bytes=n:=by
 unfold mT at h
 rw[bm] at h
 obtain⟨i,h1,h2⟩:=h
 cases h2
 exact⟨i,hE.types t i h1,rfl⟩
theorem bS {t:TypeId} {d:TypeDesc} (h:under E t=some d):P.underlying t=some d:=by
 unfold under at h
 rw[bm] at h
 obtain⟨i,h1,h2⟩:=h
 have hi:=hE.types t i h1
 unfold pO at h2
 unfold Program.underlying
 rw[hi]
 obtain⟨d0,r⟩:=i
 cases d0<;>simp only at h2⊢<;>try exact h2
 rw[bm] at h2
 obtain⟨j,h3,h4⟩:=h2
 rw[hE.types _ j h3]
 exact h4
theorem zW {t:TypeId} {b:Bool} (h:PD E t=some b) (w:World):(isAgg t).run P w= .ok b w:=by
 unfold PD at h
 rw[bm] at h
 obtain⟨d,h1,h2⟩:=h
 cases h2
 have:=bS hE h1
 simp only[isAgg,Sem.run_bind,run_underlying this,Result.andThen_ok]
 cases d<;>rfl
theorem cu {t e:TypeId} (h:dz E t=some e):P.underlying t=some (.slice e):=by
 unfold dz at h
 rw[bm] at h
 obtain⟨d,h1,h2⟩:=h
 unfold Mx at h2
 split at h2
 ·cases h2;exact bS hE h1
 ·cases h2
theorem sH {t:TypeId} {f:Nat} {fd:Field} (h:rG E t f=some fd):∃fs,P.underlying t=some (.struct fs)/\fs[f]? =some fd:=by
 unfold rG at h
 rw[bm] at h
 obtain⟨l,h1,h2⟩:=h
 rw[bm] at h1
 obtain⟨d,h3,h4⟩:=h1
 unfold HK at h4
 split at h4
 ·cases h4
  exact⟨_,bS hE h3,by simpa using h2⟩
 ·cases h4
theorem yQ {t:TypeId} {p:TypeId×TypeId} (h:eR (under E t) KH=some p):P.underlying t=some (.map p.1 p.2):=by
 rw[bm] at h
 obtain⟨d,h1,h2⟩:=h
 unfold KH at h2
 split at h2
 ·cases h2;exact bS hE h1
 ·cases h2
end
noncomputable def Fs:Nat->Value->Option SVal
  |0,_=>none
  |d+1,v=>match v with
    | .bool b=>some (.bool b)
    | .int k n=>some (.int k n)
    | .string s=>some (.str s.data.toList)
    | .pointer none=>some .nilPtr
    | .slice none 0 0=>some .aD
    | .map none=>some .eJ
    | .func (.func f) ⟨[]⟩ ⟨[]⟩=>some (.func (.func f) [] [])
    | .nilFunc=>some .fY
    | .nilIface=>some .nilIface
    | .agg ⟨a⟩=>(AK d a).map .agg
    | .tuple ⟨a⟩=>(AK d a).map .dZ
    |_=>none
 where
  AK (d:Nat):List Value->Option (List SVal)
    |[]=>some []
    |v::r=>match Fs d v with
      |none=>none
      |some s=>match AK d r with
        |none=>none
        |some l=>some (s::l)
theorem Ns:∀(d:Nat),(∀(v:Value) (s:SVal),Fs d v=some s->∀c,Den c s v)/\(∀(l:List Value) (ss:List SVal),Fs.AK d l=some ss->∀c,aQ c ss l)
 |0=>by
  refine⟨fun v s h=>by simp[Fs] at h,fun l=> ?_⟩
  cases l with
  |nil=>intro ss h c;simp[Fs.AK] at h;subst h;rfl
  |cons v r=>intro ss h;simp[Fs.AK,Fs] at h
 |d+1=>by
  obtain⟨ih1,ih2⟩:=Ns d
  have h1:∀(v:Value) (s:SVal),Fs (d+1) v=some s->∀c,Den c s v:=by
   intro v s h c
   unfold Fs at h
   split at h<;>first
    |(simp only[WN] at h;subst h;first|exact rfl|exact⟨[],[],rfl,rfl,rfl⟩)
    |(simp only[XS] at h;obtain⟨l,h1,rfl⟩:=h;exact⟨_,ih2 _ _ h1 c,rfl⟩)
    |cases h
  refine⟨h1,?_⟩
  intro l
  induction l with
  |nil=>intro ss h c;simp[Fs.AK] at h;subst h;rfl
  |cons v r ih=>
   intro ss h c
   unfold Fs.AK at h
   cases hv:Fs (d+1) v with
   |none=>rw[hv] at h;cases h
   |some s=>
    rw[hv] at h
    cases hr:Fs.AK (d+1) r with
    |none=>rw[hr] at h;cases h
    |some l=>rw[hr] at h;cases h;exact⟨_,_,h1 v s hv c,ih l hr c,rfl⟩
theorem AL {d:Nat} {v:Value} {s:SVal} (h:Fs d v=some s) (c:Ctx):Den c s v:=(Ns d).1 v s h c
noncomputable def iG (E:Env) (t:TypeId):Option SVal:=eR (E.types.get t) fun i=>eR i.zero fun v=>Fs 4 v
theorem eH {P:Program} {E:Env} (hE:bz P E) {t:TypeId} {s:SVal} (h:iG E t=some s):∃i z,P.info? t=some i/\i.zero=some z/\(∀c,Den c s z)/\∀w,(zeroValue t).run P w= .ok z w:=by
 unfold iG at h
 rw[bm] at h
 obtain⟨i,h1,h2⟩:=h
 rw[bm] at h2
 obtain⟨z,h3,h4⟩:=h2
 have:=hE.types t i h1
 exact⟨i,z,this,h3,AL h4,fun w=>by simp[zeroValue,typeInfo,this,h3]⟩
theorem gx (b o n:Nat):Addr.add ⟨b,o,none⟩ n=⟨b,o+n,none⟩:=by
 unfold Addr.add
 split
 ·rename_i h;subst h;rfl
 ·rfl
inductive lG (st:St):SVal->List SVal->Prop where
 |box {k off:Nat} {l:List SVal}:st.look k=some (.cells l)->lG st (.ptr k off) (l.drop off)
 |still {k off:Nat} {l:List SVal}:st.look k=some (.still l)->lG st (.ptr k off) (l.drop off)
 |row {k s i off:Nat} {m:Nat} {rows:List (List SVal)} {row:List SVal} {z:Bool}:st.look k=some (.row m rows s z)->rows[i]? =some row->lG st (.fv k s i off) (row.drop off)
 |elem {row:List SVal} {off:Nat}:lG st (.bR row off) (row.drop off)
theorem Vu {st:St} {c:Ctx} {w:World} (hr:dM c st.look w) {k b:Nat} {cs:List SVal} (h:st.look k=some (.cells cs)) (hb:c.ρ k=some (.box b)):
  ∃arr e,w.heap[b]? =some (.cells arr e (0,0))/\aQ c cs arr.toList/\∀i v,c.fz b i≠some v:=by
 obtain⟨l',h1,h2⟩:=hr.dO k _ h
 rw[hb] at h1
 cases h1
 exact h2
theorem uV {st:St} {c:Ctx} {w:World} (hr:dM c st.look w) {k s m:Nat} {rows:List (List SVal)} {z:Bool} (h:st.look k=some (.row m rows s z)) {ob:Option Nat} {s' sz:Nat} {u:Value} (hb:c.ρ k=some (.row ob s' sz u)):
  s'=s/\sz=m/\((ob=none/\rows=[]/\∃a,u= .slice a 0 0)\/∃b arr e cap,ob=some b/\Jx c rows z b sz u w arr e cap):=by
 obtain⟨l',h1,h2⟩:=hr.dO k _ h
 rw[hb] at h1
 cases h1
 refine⟨h2.1,h2.2.1,?_⟩
 have h3:=h2.2.2
 cases ob with
 |none=>exact .inl ⟨rfl,h3⟩
 |some b=>obtain⟨arr,e,cap,h3⟩:=h3;exact .inr ⟨b,arr,e,cap,rfl,h3⟩
theorem lG.spec {st:St} {c:Ctx} {w:World} (hr:dM c st.look w) {p:SVal} {l:List SVal} (h:lG st p l) {v:Value} (hd:Den c p v):
  ∃b o,v= .pointer (some ⟨b,o,none⟩)/\∀j s,l[j]? =some s->∃u,w.cell? ⟨b,o+j,none⟩=some u/\Den c s u:=by
 cases h with
 |box h1=>
  rename_i k off cs
  obtain⟨b,h3,rfl⟩:=hd
  obtain⟨arr,e,h5,h6,h7⟩:=Vu hr h1 h3
  refine⟨b,off,rfl,fun j s hs=> ?_⟩
  rw[Xj] at hs
  obtain⟨u,hu,hd⟩:=h6.get hs
  exact⟨u,by simpa[World.cell?,h5] using hu,hd⟩
 |still h1=>
  rename_i k off cs
  obtain⟨b,h3,rfl⟩:=hd
  obtain⟨l',h5,h6⟩:=hr.dO _ _ h1
  rw[h3] at h5
  cases h5
  obtain⟨arr,e,h5,h6,h7⟩:=h6
  refine⟨b,off,rfl,fun j s hs=> ?_⟩
  rw[Xj] at hs
  obtain⟨u,hu,hd⟩:=h6.get hs
  exact⟨u,by simpa[World.cell?,h5] using hu,hd⟩
 |row h1 h3=>
  rename_i k s i off m rows row z
  obtain⟨_,ob,st',sz,u,h5,h6,h7⟩:=hd
  obtain⟨rfl,rfl,h8|⟨b,arr,e,cap,rfl,h9⟩⟩:=uV hr h1 h5
  ·obtain⟨rfl,rfl,_⟩:=h8
   simp at h3
  ·obtain⟨r,e1,rfl⟩:=h7 rfl
   cases e1
   obtain⟨h10,h11⟩:=h9.elems i row h3
   refine⟨b,_,rfl,fun j t ht=> ?_⟩
   rw[Xj] at ht
   obtain⟨v,h12,_,h13⟩:=h11 _ t ht
   exact⟨v,by simp only[World.cell?,h9.cells];rw[<-h12];simp[Xt],h13⟩
 |elem=>
  rename_i row off
  obtain⟨b,base,rfl,h1⟩:=hd
  refine⟨b,_,rfl,fun j s hs=> ?_⟩
  rw[Xj] at hs
  obtain⟨u,h2,_,h3⟩:=h1.get hs
  obtain⟨arr,e,f,h4,h5⟩:=hr.fz _ _ _ h2
  exact⟨u,by simp only[World.cell?,h4];rw[<-h5];simp[Xt],h3⟩
theorem Lh {P:Program} {c:Ctx} {w:World} {b o:Nat} {l:List SVal} (h:∀j s,l[j]? =some s->∃u,w.cell? ⟨b,o+j,none⟩=some u/\Den c s u) {n:Nat} (hn:n<=l.length):
  ∃vs,aQ c (l.take n) vs/\vs.length=n/\(loadCells ⟨b,o,none⟩ n).run P w= .ok vs.toArray w:=by
 have key:∀j,j<n->∃s u,l[j]? =some s/\w.cell? ⟨b,o+j,none⟩=some u/\Den c s u:=fun j hj=>by
  have hj':j<l.length:=by omega
  obtain⟨u,h1,h2⟩:=h j _ (VV hj')
  exact⟨_,u,VV hj',h1,h2⟩
 have hlen:((List.range n).map fun j=>(w.cell? ⟨b,o+j,none⟩).getD undef).length=n:=by simp
 refine⟨(List.range n).map fun j=>(w.cell? ⟨b,o+j,none⟩).getD undef,aQ.o9 (by simp[hn]) fun i s hs=> ?_,by simp,?_⟩
 ·rw[Xf] at hs
  split at hs
  ·rename_i hi
   obtain⟨s',u,h1,h2,h3⟩:=key i hi
   rw[h1] at hs
   cases hs
   exact⟨u,by simp[hi,h2],h3⟩
  ·cases hs
 ·have:=run_loadCells_list (P:=P) w ⟨b,o,none⟩ ((List.range n).map fun j=>(w.cell? ⟨b,o+j,none⟩).getD undef) fun j v hv=>by
   have hj:j<n:=by have:=(VZ.1 hv).1;simpa using this
   obtain⟨s,u,h1,h2,h3⟩:=key j hj
   simp only[Wt,Yl hj,Xv,h2,Yw,WN] at hv
   subst hv
   rw[gx]
   exact h2
  rw[hlen] at this
  exact this
noncomputable def sA (E:Env) (t:TypeId) (l:List SVal):Option SVal:=
 eR (PD E t) fun b=>Bool.rec (l[0]?) (eR (cQ E t) fun n=>Af (Nat.ble n l.length) (some (.agg (l.take n)))) b
theorem vu {P:Program} {E:Env} (hE:bz P E) {t:TypeId} {c:Ctx} {w:World} {b o:Nat} {l:List SVal} (h:∀j s,l[j]? =some s->∃u,w.cell? ⟨b,o+j,none⟩=some u/\Den c s u) {s:SVal} (hl:sA E t l=some s):
  ∃v,Den c s v/\(loadVar t ⟨b,o,none⟩).run P w= .ok v w:=by
 unfold sA at hl
 rw[bm] at hl
 obtain⟨g,h1,h2⟩:=hl
 have ha:=zW hE h1 w
 cases g with
 |false=>
  obtain⟨u,h3,h4⟩:=h 0 s h2
  refine⟨u,h4,?_⟩
  rw[W9] at h3
  simp only[loadVar,Sem.run_bind,ha,Result.andThen_ok,Xm,X6,load,Sem.run,h3]
 |true=>
  have h2:eR (cQ E t) (fun n=>Af (Nat.ble n l.length) (some (.agg (l.take n))))=some s:=h2
  rw[bm] at h2
  obtain⟨n,h3,h4⟩:=h2
  rw[eV] at h4
  obtain⟨h5,h6⟩:=h4
  cases h6
  obtain⟨i,_,_,hs⟩:=bZ hE h3
  obtain⟨vs,h7,h8,h9⟩:=Lh (P:=P) h (cU h5)
  refine⟨.agg vs.toArray,⟨vs,h7,rfl⟩,?_⟩
  simp only[loadVar,Sem.run_bind,ha,Result.andThen_ok,Yk,hs w,h9]
  rfl
noncomputable def vd (E:Env) (t:TypeId) (l:List SVal) (off:Nat):Option SVal:=sA E t (l.drop off)
theorem gK {P:Program} {E:Env} (hE:bz P E) {t:TypeId} {c:Ctx} {l:List SVal} {vs:List Value} {off:Nat} {s:SVal} (h:vd E t l off=some s) (hd:aQ c l vs):
  ∃v,Den c s v/\∀w,(part t vs.toArray off).run P w= .ok v w:=by
 unfold vd sA at h
 rw[bm] at h
 obtain⟨b,h1,h2⟩:=h
 have ha:=zW hE h1
 cases b with
 |false=>
  have h2':(l.drop off)[0]? =some s:=h2
  rw[Xj] at h2'
  obtain⟨v,h3,h4⟩:=hd.get h2'
  refine⟨v,h4,fun w=> ?_⟩
  rw[W9] at h3
  simp only[part,Sem.run_bind,ha w,Result.andThen_ok,Xm,X6,XE,h3]
  rfl
 |true=>
  have h2':eR (cQ E t) (fun n=>Af (Nat.ble n (l.drop off).length) (some (.agg ((l.drop off).take n))))=some s:=h2
  rw[bm] at h2'
  obtain⟨n,h3,h4⟩:=h2'
  rw[eV] at h4
  obtain⟨h5,h6⟩:=h4
  cases h6
  obtain⟨i,_,_,hs⟩:=bZ hE h3
  refine⟨.agg ((vs.drop off).take n).toArray,⟨_,(hd.drop off).take n,rfl⟩,fun w=> ?_⟩
  simp only[part,Sem.run_bind,ha w,Result.andThen_ok,Yk,hs w]
  simp
end Sv
namespace Sv
open Go
namespace T
variable {α:Type}
noncomputable def left (t:T α):T α:=T.rec (motive:=fun _=>T α) .nil (fun _ l _ _ _=>l) t
noncomputable def right (t:T α):T α:=T.rec (motive:=fun _=>T α) .nil (fun _ _ r _ _=>r) t
noncomputable def top (t:T α):Option α:=T.rec (motive:=fun _=>Option α) none (fun v _ _ _ _=>v) t
noncomputable def mkL (v:Option α) (r:T α) (c:T α):T α:=T.rec (motive:=fun _=>T α) (.node v .nil r) (fun v' l' r' _ _=> .node v (.node v' l' r') r) c
noncomputable def mkR (v:Option α) (l:T α) (c:T α):T α:=T.rec (motive:=fun _=>T α) (.node v l .nil) (fun v' l' r' _ _=> .node v l (.node v' l' r')) c
noncomputable def F7 (x:Option α) (d:Nat):T α->Nat->T α:=
 Nat.rec (motive:=fun _=>T α->Nat->T α) (fun t _=>t)
  (fun _ ih t n=>Bool.rec (Bool.rec (mkR t.top t.left (ih t.right (Nat.sub (Nat.div n 2) 1))) (mkL t.top t.right (ih t.left (Nat.div n 2))) (Nat.beq (Nat.mod n 2) 1))
   (.node x t.left t.right) (Nat.beq n 0)) d
noncomputable def set(t:T α) (n:Nat) (x:α):Option (T α):=
 Bool.rec (some (F7 (some x) 20 t n)) none (Nat.ble 1048575 n)
noncomputable def lay (t:T α) (i:Nat) (l:List α):Option (T α):=
 List.rec (motive:=fun _=>T α->Nat->Option (T α)) (fun t _=>some t)
  (fun a _ ih t i=>Option.rec none (fun t'=>ih t' (Nat.succ i)) (t.set i a)) l t i
theorem get_nil (n:Nat):(T.nil:T α).get n=none:=rfl
theorem qw (v:Option α) (l r:T α) (n:Nat):
  (T.node v l r).get n=if n=0 then v else if n % 2=1 then l.get (n/2) else r.get (n/2-1):=by
 show @Bool.rec (fun _=>Option α) (@Bool.rec (fun _=>Option α) (r.get (Nat.sub (Nat.div n 2) 1)) (l.get (Nat.div n 2)) (Nat.beq (Nat.mod n 2) 1)) v (Nat.beq n 0)=_
 by_cases h:n=0
 ·subst h;rfl
 ·rw[TP h,pE h]
  by_cases h2:n % 2=1
  ·rw[HP h2,show Nat.beq (Nat.mod n 2) 1=true from rS h2];rfl
  ·rw[TP h2,show Nat.beq (Nat.mod n 2) 1=false from pE h2];rfl
theorem rD (t:T α) (n:Nat):t.get n=if n=0 then t.top else if n % 2=1 then t.left.get (n/2) else t.right.get (n/2-1):=by
 cases t with
 |nil=>simp[get_nil,top,left,right]
 |node v l r=>exact qw v l r n
theorem Uu (v:Option α) (r c:T α):mkL v r c= .node v c r:=by cases c<;>rfl
theorem Ut (v:Option α) (l c:T α):mkR v l c= .node v l c:=by cases c<;>rfl
theorem J1 (x:Option α) (d:Nat) (t:T α) (n:Nat):
  F7 x (d+1) t n=if n=0 then .node x t.left t.right else if n % 2=1 then .node t.top (F7 x d t.left (n/2)) t.right else .node t.top t.left (F7 x d t.right (n/2-1)):=by
 show @Bool.rec (fun _=>T α) (@Bool.rec (fun _=>T α) (mkR t.top t.left (F7 x d t.right (Nat.sub (Nat.div n 2) 1))) (mkL t.top t.right (F7 x d t.left (Nat.div n 2))) (Nat.beq (Nat.mod n 2) 1)) (.node x t.left t.right) (Nat.beq n 0)=_
 by_cases h:n=0
 ·subst h;rfl
 ·rw[TP h,pE h]
  by_cases h2:n % 2=1
  ·rw[HP h2,show Nat.beq (Nat.mod n 2) 1=true from rS h2];exact Uu ..
  ·rw[TP h2,show Nat.beq (Nat.mod n 2) 1=false from pE h2];exact Ut ..
theorem vP (x:Option α):∀(d:Nat) (t:T α) (n m:Nat),n+2<=2^d->(F7 x d t n).get m=if m=n then x else t.get m
 |0,_,n,_,h=>by simp at h
 |d+1,t,n,m,h=>by
  rw[J1]
  have hp:2^(d+1)=2*2^d:=by rw[Nat.pow_succ];omega
  by_cases h0:n=0
  ·subst h0
   rw[HP rfl,qw,rD t m]
   by_cases hm:m=0<;>simp[hm]
  ·rw[TP h0]
   by_cases h1:n % 2=1
   ·rw[HP h1,qw,rD t m]
    by_cases hm:m=0
    ·simp[hm];omega
    ·rw[TP hm,TP hm]
     by_cases hm1:m % 2=1
     ·rw[HP hm1,HP hm1,vP x d _ _ _ ii]
      by_cases e:m=n
      ·subst e;simp
      ·rw[TP e,TP ii]
     ·rw[TP hm1,TP hm1,TP (by intro e;subst e;exact hm1 h1)]
   ·rw[TP h1,qw,rD t m]
    by_cases hm:m=0
    ·simp[hm];omega
    ·rw[TP hm,TP hm]
     by_cases hm1:m % 2=1
     ·rw[HP hm1,HP hm1,TP (by intro e;subst e;exact h1 hm1)]
     ·rw[TP hm1,TP hm1,vP x d _ _ _ ii]
      by_cases e:m=n
      ·subst e;simp
      ·rw[TP e,TP ii]
theorem fu {t t':T α} {n:Nat} {x:α} (h:t.set n x=some t') (m:Nat):t'.get m=if m=n then some x else t.get m:=by
 unfold set at h
 cases hb:Nat.ble 1048575 n with
 |true=>rw[hb] at h;cases h
 |false=>
  rw[hb] at h
  cases h
  refine vP _ 20 t n m ?_
  have:¬1048575<=n:=fun hl=>by rw[XD hl] at hb;cases hb
  have e:(2:Nat)^20=1048576:=by decide
  omega
theorem RJ (t:T α) (i:Nat):t.lay i ([]:List α)=some t:=rfl
theorem NT (t:T α) (i:Nat) (a:α) (l:List α):t.lay i (a::l)=eR (t.set i a) fun t'=>t'.lay (i+1) l:=by
 rfl
theorem vE:∀{l:List α} {t t':T α} {i:Nat},t.lay i l=some t'->∀m,t'.get m=if i<=m/\m<i+l.length then l[m-i]? else t.get m
 |[],t,t',i,h,m=>by
  rw[RJ] at h
  cases h
  rw[TP (by simp)]
 |a::l,t,t',i,h,m=>by
  rw[NT,bm] at h
  obtain⟨t1,h1,h2⟩:=h
  rw[vE h2 m]
  have h3:=fu h1 m
  by_cases e:m=i
  ·subst e
   rw[TP ii,HP (by simp),h3,HP rfl]
   simp
  ·by_cases c:i+1<=m/\m<i+1+l.length
   ·rw[HP c,HP (by simp;omega)]
    have:m-i=(m-(i+1))+1:=by omega
    rw[this];simp
   ·rw[TP c,TP (by simp;omega),h3,TP e]
end T
end Sv
namespace Sv
open Go Go.RowKit
noncomputable def over (l:List SVal) (off:Nat) (v:List SVal):List SVal:=
 match v with
 |[x]=>l.set off x
 |v=>l.take off++(v++l.drop (off+v.length))
theorem p8 (l:List SVal) (off:Nat) (v:List SVal) (h:off+v.length<=l.length):over l off v=l.take off++(v++l.drop (off+v.length)):=by
 unfold over
 split
 ·rename_i x
  simp only[Ws] at h⊢
  rw[List.set_eq_take_append_cons_drop,HP ii]
  rfl
 ·rfl
theorem sr (l:List SVal) (off:Nat) (v:List SVal) (h:off+v.length<=l.length):(over l off v).length=l.length:=by
 rw[p8 l off v h];simp;omega
theorem ve {α:Type} (l:List α) (off:Nat) (v:List α) (h:off+v.length<=l.length) (i:Nat):
  (l.take off++(v++l.drop (off+v.length)))[i]? =if i<off then l[i]? else if i<off+v.length then v[i-off]? else l[i]? :=by
 by_cases c1:i<off
 ·rw[HP c1,Wi (by simp;omega),Xf,HP c1]
 ·rw[TP c1]
  by_cases c2:i<off+v.length
  ·rw[HP c2,Wh (by simp;omega),Wi (by simp;omega)]
   congr 1;simp;omega
  ·rw[TP c2,Wh (by simp;omega),Wh (by simp;omega),Xj]
   congr 1;simp;omega
theorem F5 (w:World) (g:Nat) (a:Array Value):TK (some g) w (w.setRow g a):=by
 refine⟨rfl,rfl,rfl,by simp[World.setRow],fun k hk hne=> ?_⟩
 have:g≠k:=fun e=>hne (by rw[e])
 simp[World.setRow,Array.getElem?_modify,this]
noncomputable def stored (w:World) (b off:Nat) (arr:Array Value) (vs:List Value):World:=w.setRow b (arr.toList.take off++(vs++arr.toList.drop (off+vs.length))).toArray
theorem kW {w:World} {b off:Nat} {arr:Array Value} {e:TypeId} {vs:List Value} (h:w.heap[b]? =some (.cells arr e (0,0))) (hfit:off+vs.length<=arr.size) (hone:∀v∈vs,v.oneCell'=true):
  (∀P:Program,(storeCells ⟨b,off,none⟩ vs).run P w= .ok () (stored w b off arr vs))/\TK (some b) w (stored w b off arr vs)/\
   (stored w b off arr vs).heap[b]? =some (.cells (arr.toList.take off++(vs++arr.toList.drop (off+vs.length))).toArray e (0,0)):=by
 refine⟨fun P=> ?_,F5 w b _,setRow_heap w b arr _ e (0,0) h⟩
 have:=run_storeCells_at P b off e vs 0 arr w h ii hone
 simp only[W9] at this
 rw[this]
 unfold stored
 rw[WG]
theorem K0 {c:Ctx} {rows:List (List SVal)} {sz:Nat} {arr arr':Array Value} (h:ez c rows sz arr) {i off:Nat} {row:List SVal} (hi:rows[i]? =some row) {v:List SVal} {vs:List Value} (hd:aQ c v vs) (hone:∀u∈vs,u.oneCell'=true) (hfit:off+v.length<=row.length)
  (ha:∀j,arr'[j]? =if j<i*sz+off then arr[j]? else if j<i*sz+off+vs.length then vs[j-(i*sz+off)]? else arr[j]?):ez c (rows.set i (over row off v)) sz arr':=by
 have hlv:=hd.length
 obtain⟨hsz,hrow⟩:=h i row hi
 have hlt:i<rows.length:=(VZ.1 hi).1
 intro j r hr
 rw[WV] at hr
 by_cases e:i=j
 ·subst e
  rw[HP rfl,HP hlt] at hr
  cases hr
  refine⟨by rw[sr _ _ _ hfit];exact hsz,fun m s hs=> ?_⟩
  rw[p8 _ _ _ hfit,ve _ _ _ hfit] at hs
  rw[ha]
  by_cases c1:m<off
  ·rw[HP c1] at hs
   rw[HP ii]
   exact hrow m s hs
  ·rw[TP c1] at hs
   by_cases c2:m<off+v.length
   ·rw[HP c2] at hs
    obtain⟨u,h1,h2⟩:=hd.get hs
    rw[TP ii,HP ii]
    exact⟨u,by rw[<-h1];congr 1;omega,hone u (V6 h1),h2⟩
   ·rw[TP c2] at hs
    rw[TP ii,TP ii]
    exact hrow m s hs
 ·rw[TP e] at hr
  refine⟨(h j r hr).1,fun m s hs=> ?_⟩
  obtain⟨h3,h4⟩:=h j r hr
  have hm:m<sz:=by rw[<-h3];exact(VZ.1 hs).1
  rw[ha]
  rcases Nat.lt_or_gt_of_ne e with hlt'|hlt'
  ·have:(i+1)*sz<=j*sz:=W7 _ hlt'
   rw[WZ,XG] at this
   rw[TP ii,TP ii]
   exact h4 m s hs
  ·have:(j+1)*sz<=i*sz:=W7 _ hlt'
   rw[WZ,XG] at this
   rw[HP ii]
   exact h4 m s hs
inductive P5 (st:St):SVal->List SVal->St->Prop where
 |box {k off:Nat} {l v:List SVal}:st.look k=some (.cells l)->off+v.length<=l.length->P5 st (.ptr k off) v (st.put k (.cells (over l off v)))
 |row {k s i off m:Nat} {rows:List (List SVal)} {row v:List SVal}:st.look k=some (.row m rows s false)->rows[i]? =some row->off+v.length<=row.length->P5 st (.fv k s i off) v (st.put k (.row m (rows.set i (over row off v)) s false))
theorem P5.eX {st st':St} {p:SVal} {v:List SVal} (h:P5 st p v st'):eS st st':=by
 cases h with
 |box h _=>exact dA _ h
 |row h _ _=>exact dA _ h
theorem P5.next {st st':St} {p:SVal} {v:List SVal} (h:P5 st p v st'):st'.next=st.next:=by cases h<;>rfl
theorem P5.ok {st st':St} {p:SVal} {v:List SVal} (h:P5 st p v st') {c:Ctx} {w:World} (hr:dM c st.look w) {u:Value} (hp:Den c p u) {vs:List Value} (hd:aQ c v vs) (hf:sF v):
  ∃b o w',u= .pointer (some ⟨b,o,none⟩)/\(∀P:Program,(storeCells ⟨b,o,none⟩ vs).run P w= .ok () w')/\dM c st'.look w'/\Step st.next st'.next c st.look w c st'.look w':=by
 have hl:=hd.length
 cases h with
 |box hk hfit=>
  rename_i k off l
  obtain⟨b,h1,rfl⟩:=hp
  obtain⟨l',h2,h3⟩:=hr.dO _ _ hk
  rw[h1] at h2
  cases h2
  obtain⟨arr,e,h4,h5,h6⟩:=h3
  have hal:arr.size=l.length:=by simpa using h5.length
  obtain⟨g1,g2,g3⟩:=kW (off:=off) h4 ii (kF hf hd)
  obtain⟨r1,r2⟩:=eP (o':= .cells (over l off v)) hr hk h1 h1 (dJ.refl _) (fun _ _=>rfl) (fun _ _ _ h=>h) (fun _ _ _ h=> .inl h) (fun r hr=> .inl hr) g2 (fun b' i x hb hx=>by cases hb;exact absurd hx (h6 i x)) ⟨_,e,g3,by
   rw[p8 l off v hfit]
   refine aQ.append.2 ⟨_,_,h5.take off,aQ.append.2 ⟨_,_,hd,h5.drop _,rfl⟩,?_⟩
   rw[hl],h6⟩
  exact⟨b,off,_,rfl,g1,r1,r2⟩
 |row hk hi hfit=>
  rename_i k s i off m rows row
  obtain⟨_,ob,st0,sz,u0,h1,h2,h3⟩:=hp
  obtain⟨l',h4,h5⟩:=hr.dO _ _ hk
  rw[h1] at h4
  cases h4
  obtain⟨rfl,rfl,h5⟩:=h5
  obtain⟨b,rfl,rfl⟩:=h3 rfl
  obtain⟨arr,e,cap,h5⟩:=h5
  have hlt:i<rows.length:=(VZ.1 hi).1
  have hrow:=(h5.elems i row hi).1
  have hle:(i+1)*sz<=cap*sz:=W7 _ (by have:=h5.fits;omega)
  rw[WZ,XG] at hle
  have hsz:=h5.size
  obtain⟨g1,g2,g3⟩:=kW (off:=i*sz+off) h5.cells ii (kF hf hd)
  have hobj:eT c (.row sz (rows.set i (over row off v)) st0 false) (.row (some b) st0 sz u0) (stored w b (i*sz+off) arr vs):=by
   refine⟨rfl,rfl,_,e,cap,⟨by rw[h5.val,Wb],g3,by simp;omega,by rw[Wb];exact h5.fits,?_,fun j x hx=> ?_⟩⟩
   ·refine K0 h5.elems hi hd (kF hf hd) hfit fun j=> ?_
    rw[XE,ve _ _ _ (by simp;omega)]
    simp
   ·have:=(h5.fz j x hx).1
    cases this
  obtain⟨r1,r2⟩:=eP hr hk h1 h1 (dJ.refl _) (fun _ _=>rfl) (fun _ _ _ h=>h) (fun _ _ _ h=> .inl h) (fun r hr=> .inl hr) g2
   (fun b' j x hb hx=>by cases hb;have:=(h5.fz j x hx).1;cases this) hobj
  exact⟨b,i*sz+off,_,rfl,g1,r1,r2⟩
structure Good (st st':St) (s:SVal) (c:Ctx) (w:World) (c':Ctx) (v:Value) (w':World):Prop where
 val:Den c' s v
 rep:dM c' st'.look w'
 step:Step st.next st'.next c st.look w c' st'.look w'
def mY (P:Program) (S:Sem Value) (st st':St) (s:SVal) (c:Ctx) (w:World):Prop:=∃c' v w',S.run P w= .ok v w'/\Good st st' s c w c' v w'
theorem mY.same {P:Program} {S:Sem Value} {st:St} {s:SVal} {c:Ctx} {w:World} {v:Value} (hr:dM c st.look w) (h:S.run P w= .ok v w) (hd:Den c s v):mY P S st st s c w:=
 ⟨c,v,w,h,hd,hr,Step.refl _ _ _ _⟩
abbrev jr:=Operand->Option SVal
def dQ (P:Program) (o:Oper) (e:Operand->Value) (st st':St) (s:SVal) (c:Ctx) (w:World):Prop:=
 ∀(a:Act) (next:Act->World->Prop) (Q:Exit->Act->World->Prop),(∀c' v w',Good st st' s c w c' v w'->next (a.put o.dst v) w')->o.uponIn Fence.wide 0 P a next Q ((execOp e o).run P w)
theorem dQ.val {P:Program} {o:Oper} {e:Operand->Value} {st st':St} {s:SVal} {c:Ctx} {w:World} {S:Sem Value} (he:execOp e o=(do pure (.value (<-S)):Sem Next)) (h:mY P S st st' s c w):dQ P o e st st' s c w:=by
 intro a next Q hn
 obtain⟨c',v,w',h1,h2⟩:=h
 rw[he,Sem.run_bind,h1,Result.andThen_ok,Sem.run_pure]
 exact hn c' v w' h2
theorem dQ.same {P:Program} {o:Oper} {e:Operand->Value} {st:St} {s:SVal} {c:Ctx} {w:World} {v:Value} (hr:dM c st.look w) (h:(execOp e o).run P w= .ok (.value v) w) (hd:Den c s v):dQ P o e st st s c w:=by
 intro a next Q hn
 rw[h]
 exact hn c v w ⟨hd,hr,Step.refl _ _ _ _⟩
theorem dQ.skip {P:Program} {o:Oper} {e:Operand->Value} {st st':St} {c c':Ctx} {w w':World} {S:Sem Unit} (he:execOp e o=(do S;pure .skip:Sem Next)) (h:S.run P w= .ok () w') (hr:dM c' st'.look w') (hs:Step st.next st'.next c st.look w c' st'.look w'):
  dQ P o e st st' (.dZ []) c w:=by
 intro a next Q hn
 rw[he,Sem.run_bind,h,Result.andThen_ok,Sem.run_pure]
 exact hn c' _ w' ⟨⟨[],rfl,rfl⟩,hr,hs⟩
structure bG (P:Program) (o:Oper) (ev:jr) (st:St) (s:SVal) (st':St):Prop where
 nd:∀d,o.op≠.defer d
 eX:eS st st'
 ok:∀{c:Ctx} {w:World},dM c st.look w->Wf st->pH c st.next st'.next->∀{e:Operand->Value},(∀x∈o.op.operands.toList,∀s,ev x=some s->Den c s (e x))->dQ P o e st st' s c w
section
variable {P:Program} {E:Env} {o:Oper} {ev:jr} {st:St}
theorem MA {x:Operand} {s:SVal} (ho:o.op= .move x) (hx:ev x=some s):bG P o ev st s st:=
 ⟨by simp[ho],eS.refl _,fun hr _ _ _ he=>dQ.same hr (by simp[execOp,ho]) (he x (by simp[ho,Op.operands]) _ hx)⟩
theorem F8 {x:Operand} {s:SVal} (ho:o.op= .assign x) (hx:ev x=some s):bG P o ev st s st:=
 ⟨by simp[ho],eS.refl _,fun hr _ _ _ he=>dQ.same hr (by simp[execOp,ho]) (he x (by simp[ho,Op.operands]) _ hx)⟩
theorem CC {x a b:Operand} {t:Bool} {s:SVal} (ho:o.op= .pick x a b) (hx:ev x=some (.bool t)) (hs:ev (Bool.rec b a t)=some s):bG P o ev st s st:=
 ⟨by simp[ho],eS.refl _,fun{c w} hr _ _ {e} he=>by
  have hc:e x= .bool t:=he x (by simp[ho,Op.operands]) _ hx
  refine dQ.same (v:=if t then e a else e b) hr (by simp[execOp,ho,hc,asBool]) ?_
  cases t with
  |true=>exact he a (by simp[ho,Op.operands]) _ hs
  |false=>exact he b (by simp[ho,Op.operands]) _ hs⟩
theorem Av {x:Operand} {s:SVal} (ho:o.op= .nilCheck x) (hx:ev x=some s) (h:(∃k off,s= .ptr k off)\/(∃k t i off,s= .fv k t i off)\/(∃r off,s= .bR r off)\/(∃f a b,s= .func (.func f) a b)):bG P o ev st s st:=
 ⟨by simp[ho],eS.refl _,fun{c w} hr _ _ {e} he=>by
  have hd:=he x (by simp[ho,Op.operands]) _ hx
  refine dQ.same hr ?_ hd
  rcases h with⟨k,off,rfl⟩|⟨k,t,i,off,rfl⟩|⟨r,off,rfl⟩|⟨f,a,b,rfl⟩
  ·obtain⟨b,_,h2⟩:=hd;simp[execOp,ho,h2]
  ·obtain⟨⟨a,h2⟩,_⟩:=hd;simp[execOp,ho,h2]
  ·obtain⟨b,base,h2,_⟩:=hd;simp[execOp,ho,h2]
  ·obtain⟨xs,ys,_,_,h2⟩:=hd;simp[execOp,ho,h2]⟩
theorem wrap_i64 {n:Int} (h0: -9223372036854775808<=n) (h1:n<9223372036854775808):IntKind.i64.wrap n=n:=by
 have e:(2:Int)^64=18446744073709551616:=by decide
 have e2:(2:Int)^(64-1)=9223372036854775808:=by decide
 simp only[IntKind.wrap,IntKind.bits,IntKind.signed,e,e2,WD]
 split
 ·rename_i hc;simp at hc;omega
 ·rename_i hc;simp at hc;omega
theorem wrap_u8 {n:Int} (h0:0<=n) (h1:n<256):IntKind.u8.wrap n=n:=by
 have e:(2:Int)^8=256:=by decide
 simp only[IntKind.wrap,IntKind.bits,IntKind.signed,e,Bool.false_and,Xm,X6]
 omega
theorem wrap_u64 {n:Int} (h0:0<=n) (h1:n<18446744073709551616):IntKind.u64.wrap n=n:=by
 have e:(2:Int)^64=18446744073709551616:=by decide
 simp only[IntKind.wrap,IntKind.bits,IntKind.signed,e,Bool.false_and,Xm,X6]
 omega
def ym:IntKind->Int->Prop
 | .i64,n=> -9223372036854775808<=n/\n<9223372036854775808
 | .u8,n=>0<=n/\n<256
 | .u64,n=>0<=n/\n<18446744073709551616
 |k,n=>k.wrap n=n
theorem ym.wrap:∀{k:IntKind} {n:Int},ym k n->k.wrap n=n
 | .i64,_,h=>wrap_i64 h.1 h.2
 | .u8,_,h=>wrap_u8 h.1 h.2
 | .u64,_,h=>wrap_u64 h.1 h.2
 | .i8,_,h=>h
 | .i16,_,h=>h
 | .i32,_,h=>h
 | .u16,_,h=>h
 | .u32,_,h=>h
def arith:BinOp->Int->Int->Option Int
 | .add,a,b=>some (a+b)
 | .sub,a,b=>some (a-b)
 | .mul,a,b=>some (a*b)
 |_,_,_=>none
def wC:BinOp->Int->Int->Option Bool
 | .eql,a,b=>some (decide (a=b))
 | .neq,a,b=>some (!decide (a=b))
 | .lss,a,b=>some (decide (a<b))
 | .leq,a,b=>some (decide (a<=b))
 | .gtr,a,b=>some (decide (b<a))
 | .geq,a,b=>some (decide (b<=a))
 |_,_,_=>none
def wz:BinOp->List UInt8->List UInt8->Option Bool
 | .eql,a,b=>some (decide (a=b))
 | .neq,a,b=>some (!decide (a=b))
 | .lss,a,b=>some (Op.bytesLess a b)
 | .leq,a,b=>some (Op.bytesLess a b||decide (a=b))
 | .gtr,a,b=>some (!(Op.bytesLess a b||decide (a=b)))
 | .geq,a,b=>some (!Op.bytesLess a b)
 |_,_,_=>none
theorem On {e:Operand->Value} {op:BinOp} {t ty:TypeId} {x y:Operand} (ho:o.op= .binOp op t x y ty):execOp e o=(do pure (.value (<-(do eqGuard op t x y (e x) (e y);binOp op t (e x) (e y):Sem Value))):Sem Next):=by
 simp only[execOp,ho]
theorem eY {op:BinOp} {t ty:TypeId} {x y:Operand} {s1 s2 s:SVal} (ho:o.op= .binOp op t x y ty) (hx:ev x=some s1) (hy:ev y=some s2)
  (h:∀(c:Ctx) (u v:Value),Den c s1 u->Den c s2 v->∃r,Den c s r/\∀w,((do eqGuard op t x y u v;binOp op t u v:Sem Value)).run P w= .ok r w):bG P o ev st s st:=
 ⟨by simp[ho],eS.refl _,fun{c w} hr _ _ {e} he=>by
  obtain⟨r,h1,h2⟩:=h c _ _ (he x (by simp[ho,Op.operands]) _ hx) (he y (by simp[ho,Op.operands]) _ hy)
  exact dQ.val (On ho) (mY.same hr (h2 w) h1)⟩
theorem q7 {op:BinOp} {t ty:TypeId} {x y:Operand} {k:IntKind} {a b r:Int} (ho:o.op= .binOp op t x y ty) (hx:ev x=some (.int k a)) (hy:ev y=some (.int k b)) (h:arith op a b=some r) (hr:ym k r):bG P o ev st (.int k r) st:=
 eY ho hx hy fun c u v hu hv=>by
  cases hu;cases hv
  refine⟨_,rfl,fun w=> ?_⟩
  rw[eqGuard_at_int]
  cases op<;>simp only[arith,WN,reduceCtorEq] at h<;>(subst h;simp[binOp,Op.intArith,hr.wrap])
theorem QN {t ty:TypeId} {x y:Operand} {k:IntKind} {a b:Int} (ho:o.op= .binOp .quo t x y ty) (hx:ev x=some (.int k a)) (hy:ev y=some (.int k b)) (hb:b≠0) (hr:ym k (a.tdiv b)):bG P o ev st (.int k (a.tdiv b)) st:=
 eY ho hx hy fun c u v hu hv=>by
  cases hu;cases hv
  refine⟨_,rfl,fun w=> ?_⟩
  rw[eqGuard_at_int]
  simp[binOp,Op.intDiv,hb,hr.wrap]
theorem QM {t ty:TypeId} {x y:Operand} {k:IntKind} {a b:Int} (ho:o.op= .binOp .rem t x y ty) (hx:ev x=some (.int k a)) (hy:ev y=some (.int k b)) (hb:b≠0):bG P o ev st (.int k (a.tmod b)) st:=
 eY ho hx hy fun c u v hu hv=>by
  cases hu;cases hv
  refine⟨_,rfl,fun w=> ?_⟩
  rw[eqGuard_at_int]
  simp[binOp,Op.intDiv,hb]
theorem np {op:BinOp} {t ty:TypeId} {x y:Operand} {k:IntKind} {a b:Int} {r:Bool} (ho:o.op= .binOp op t x y ty) (hx:ev x=some (.int k a)) (hy:ev y=some (.int k b)) (h:wC op a b=some r):bG P o ev st (.bool r) st:=
 eY ho hx hy fun c u v hu hv=>by
  cases hu;cases hv
  refine⟨_,rfl,fun w=> ?_⟩
  rw[eqGuard_at_int]
  cases op<;>simp only[wC,WN,reduceCtorEq] at h<;>subst h<;>simp only[binOp_eql,binOp_neq,binOp_lss,binOp_leq,binOp_gtr,binOp_geq,Sem.run_bind,Sem.run_pure,Result.andThen_ok,bne]<;>
   refine W4 (fun b=>Result.ok (Value.bool b) w) ?_<;>rw[Ye]<;>simp
theorem MF {op:BinOp} {t ty:TypeId} {x y:Operand} {a b:List UInt8} {r:Bool} (ho:o.op= .binOp op t x y ty) (hx:ev x=some (.str a)) (hy:ev y=some (.str b)) (h:wz op a b=some r):bG P o ev st (.bool r) st:=
 eY ho hx hy fun c u v hu hv=>by
  cases hu;cases hv
  have e:∀op,binOp op t (.string ⟨a.toArray⟩) (.string ⟨b.toArray⟩)=Op.stringOp op ⟨a.toArray⟩ ⟨b.toArray⟩:=fun op=>by cases op<;>rfl
  refine⟨_,rfl,fun w=> ?_⟩
  rw[eqGuard_at_string]
  have e2:(a==b)=decide (a=b):=by rw[Ye];simp
  cases op<;>simp only[wz,WN,reduceCtorEq] at h<;>subst h<;>simp only[e,Sem.run_bind,Sem.run_pure,Result.andThen_ok]<;>simp[Op.stringOp,ByteArray.toList_eq,e2]
theorem MG {t ty:TypeId} {x y:Operand} {a b:List UInt8} (ho:o.op= .binOp .add t x y ty) (hx:ev x=some (.str a)) (hy:ev y=some (.str b)) (h:a.length+b.length<=1000000):bG P o ev st (.str (a++b)) st:=
 eY ho hx hy fun c u v hu hv=>by
  cases hu;cases hv
  have e:∀op,binOp op t (.string ⟨a.toArray⟩) (.string ⟨b.toArray⟩)=Op.stringOp op ⟨a.toArray⟩ ⟨b.toArray⟩:=fun op=>by cases op<;>rfl
  refine⟨.string ⟨(a++b).toArray⟩,rfl,fun w=> ?_⟩
  rw[eqGuard_at_string]
  simp only[Sem.run_bind,Sem.run_pure,Result.andThen_ok,e]
  rw[run_string_add_sum w _ _ (by show a.toArray.size+b.toArray.size<=_;simp;omega)]
  congr 2
theorem QO {t:TypeId} {x:Operand} {b:Bool} (ho:o.op= .unOp .not t x) (hx:ev x=some (.bool b)):bG P o ev st (.bool (!b)) st:=
 ⟨by simp[ho],eS.refl _,fun{c w} hr _ _ {e} he=>by
  have hd:e x= .bool b:=he x (by simp[ho,Op.operands]) _ hx
  exact dQ.same hr (by simp[execOp,ho,hd,Op.unary]) rfl⟩
theorem QQ {t:TypeId} {x:Operand} {k:IntKind} {a:Int} (ho:o.op= .unOp .neg t x) (hx:ev x=some (.int k a)) (hr:ym k (0-a)):bG P o ev st (.int k (0-a)) st:=
 ⟨by simp[ho],eS.refl _,fun{c w} hrep _ _ {e} he=>by
  have hd:e x= .int k a:=he x (by simp[ho,Op.operands]) _ hx
  exact dQ.same (v:= .int k (0-a)) hrep (by simp only[execOp,ho,hd,Op.unary,Op.intArith,hr.wrap];rfl) rfl⟩
end
noncomputable def U5 (E:Env) (f:TypeId->SVal->SVal->Option Bool) (xs ys:List SVal):List (TypeId×Nat)->Option Bool
 |[]=>some true
 |p::r=>eR (vd E p.1 xs p.2) fun x=>eR (vd E p.1 ys p.2) fun y=>eR (f p.1 x y) fun b=>eR (U5 E f xs ys r) fun q=>some (b&&q)
noncomputable def Ov (E:Env) (rec:TypeId->SVal->SVal->Option Bool) (t:TypeId) (d:TypeDesc) (x y:SVal):Option Bool:=
 match d,x,y with
 | .bool,.bool a,.bool b=>some (a==b)
 | .int _,.int k a,.int k' b=>Af (decide (k=k')) (some (decide (a=b)))
 | .string,.str a,.str b=>some (decide (a=b))
 | .pointer _,.nilPtr,.nilPtr=>some true
 | .pointer _,.nilPtr,.ptr _ _=>some false
 | .pointer _,.ptr _ _,.nilPtr=>some false
 | .slice _,.aD,.aD=>some true
 | .slice _,.aK _ (_::_),.aD=>some false
 | .map _ _,.eJ,.eJ=>some true
 | .map _ _,.map _,.eJ=>some false
 | .func _ _ _,.fY,.fY=>some true
 | .func _ _ _,.func _ _ _,.fY=>some false
 | .struct fs,.agg xs,.agg ys=>Af (E.eqs.any (Nat.beq t))<|U5 E rec xs ys ((fs.toList.filter (fun f=>f.name != "_")).map fun f=>(f.type,f.offset))
 | .array n e,.agg xs,.agg ys=>Af (E.eqs.any (Nat.beq t))<|eR (cQ E e) fun s=>U5 E rec xs ys ((List.range n).map fun i=>(e,i*s))
 |_,_,_=>none
noncomputable def P1 (E:Env):Nat->TypeId->SVal->SVal->Option Bool
 |0,_,_,_=>none
 |d+1,t,x,y=>eR (under E t) fun u=>Ov E (P1 E d) t u x y
theorem BP {l:List Nat} {t:Nat} (h:l.any (Nat.beq t)=true):t∈l:=by
 rw[Yy] at h
 obtain⟨x,h1,h2⟩:=h
 cases Xy h2
 exact h1
theorem toList_mk (a:List UInt8):(ByteArray.mk a.toArray).toList=a:=by rw[ByteArray.toList_eq]
theorem wc {c:Ctx} {f:Fn} {a b:List SVal} {v:Value} (h:Den c (.func f a b) v):∃g x y,v= .func g x y:=by
 cases f<;>first
  |(obtain⟨_,_,h⟩:=h;exact⟨_,_,_,h⟩)
  |(obtain⟨_,_,_,_,h⟩:=h;exact⟨_,_,_,h⟩)
def VO (P:Program) (f:TypeId->SVal->SVal->Option Bool) (d:Nat):Prop:=
 ∀t x y b,f t x y=some b->∀c u v w,Den c x u->Den c y v->(Op.equalIn d t u v).run P w= .ok b w
section
variable {P:Program} {E:Env} (hE:bz P E)
include hE
theorem pv {f:TypeId->SVal->SVal->Option Bool} {d:Nat} (hf:VO P f d) {c:Ctx} {xs ys:List SVal} {us vs:List Value} (hx:aQ c xs us) (hy:aQ c ys vs) (w:World):
  ∀(fs:List Field) (b:Bool),U5 E f xs ys ((fs.filter (fun f=>f.name != "_")).map fun f=>(f.type,f.offset))=some b->(Op.eqFields d us.toArray vs.toArray fs).run P w= .ok b w
 |[],b,h=>by cases h;rfl
 |g::fs,b,h=>by
  rw[List.filter_cons] at h
  unfold Op.eqFields
  by_cases hn:g.name= "_"
  ·rw[TP (by simp[hn])] at h
   rw[TP (by simp[hn])]
   exact pv hf hx hy w fs b h
  ·rw[HP (by simpa using hn),WM,U5,bm] at h
   obtain⟨x,h1,h⟩:=h
   rw[bm] at h
   obtain⟨y,h2,h⟩:=h
   rw[bm] at h
   obtain⟨r,h3,h⟩:=h
   rw[bm] at h
   obtain⟨q,h8,h⟩:=h
   cases h
   rw[HP hn]
   obtain⟨u,h4,h5⟩:=gK hE h1 hx
   obtain⟨v,h6,h7⟩:=gK hE h2 hy
   simp only[Sem.run_bind,h5 w,h7 w,hf _ _ _ _ h3 c u v w h4 h6,Result.andThen_ok]
   cases r with
   |false=>rfl
   |true=>simpa using pv hf hx hy w fs q h8
theorem zo {f:TypeId->SVal->SVal->Option Bool} {d:Nat} (hf:VO P f d) {c:Ctx} {xs ys:List SVal} {us vs:List Value} (hx:aQ c xs us) (hy:aQ c ys vs) (w:World) (e:TypeId) (z:Nat):
  ∀(is:List Nat) (b:Bool),U5 E f xs ys (is.map fun i=>(e,i*z))=some b->(Op.eqItems d e z us.toArray vs.toArray is).run P w= .ok b w
 |[],b,h=>by cases h;rfl
 |i::is,b,h=>by
  rw[WM,U5,bm] at h
  obtain⟨x,h1,h⟩:=h
  rw[bm] at h
  obtain⟨y,h2,h⟩:=h
  rw[bm] at h
  obtain⟨r,h3,h⟩:=h
  rw[bm] at h
  obtain⟨q,h8,h⟩:=h
  cases h
  unfold Op.eqItems
  obtain⟨u,h4,h5⟩:=gK hE h1 hx
  obtain⟨v,h6,h7⟩:=gK hE h2 hy
  simp only[Sem.run_bind,h5 w,h7 w,hf _ _ _ _ h3 c u v w h4 h6,Result.andThen_ok]
  cases r with
  |false=>rfl
  |true=>simpa using zo hf hx hy w e z is q h8
theorem Oq (k:Nat):∀d,VO P (P1 E d) (d+k)
 |0=>fun t x y b h=>by cases h
 |d+1=>fun t x y b h c u v w hx hy=>by
  have ih:=Oq k d
  rw[show d+1+k=(d+k)+1 from by omega]
  generalize d+k=d' at*
  have h':(eR (under E t) fun u=>Ov E (P1 E d) t u x y)=some b:=h
  rw[bm] at h'
  obtain⟨D,h1,h2⟩:=h'
  have hu:=bS hE h1
  unfold Ov at h2
  split at h2
  all_goals first
   |(cases h2;done)
   |skip
  ·cases h2;cases hx;cases hy;simp[Op.equalIn,run_underlying hu]
  ·rw[eV] at h2
   cases Wp h2.1
   have:=h2.2
   cases this
   cases hx;cases hy
   rw[run_equalIn_int w d' t _ _ _ _ hu]
   rfl
  ·cases h2;cases hx;cases hy
   rw[run_equalIn_string w d' t _ _ hu,toList_mk,toList_mk]
   congr 1
   rw[Ye];simp
  ·cases h2;cases hx;cases hy;simp[Op.equalIn,run_underlying hu]
  ·cases h2;cases hx;obtain⟨l,_,rfl⟩:=hy;simp[Op.equalIn,run_underlying hu]
  ·cases h2;cases hy;obtain⟨l,_,rfl⟩:=hx;simp[Op.equalIn,run_underlying hu]
  ·cases h2;cases hx;cases hy;simp[Op.equalIn,run_underlying hu]
  ·cases h2;cases hy
   rcases hx with⟨h,_⟩|⟨b,base,size,cap,rfl,_⟩
   ·cases h
   ·simp[Op.equalIn,run_underlying hu]
  ·cases h2;cases hx;cases hy;simp[Op.equalIn,run_underlying hu]
  ·cases h2;cases hy;obtain⟨l,_,rfl⟩:=hx;simp[Op.equalIn,run_underlying hu]
  ·cases h2;cases hx;cases hy;simp[Op.equalIn,run_underlying hu]
  ·cases h2;cases hy;obtain⟨_,p,q,rfl⟩:=wc hx;simp[Op.equalIn,run_underlying hu]
  ·rename_i fs xs ys
   rw[eV] at h2
   obtain⟨us,h3,rfl⟩:=hx
   obtain⟨vs,h4,rfl⟩:=hy
   have hf:P.fieldsOf t=fs:=by unfold Program.fieldsOf;rw[hu]
   rw[run_equalIn_struct w d' t _ _ (by rw[hf];exact hu) (hE.eqs t (BP h2.1)).1,hf]
   exact pv hE ih h3 h4 w _ b h2.2
  ·rename_i n e xs ys
   rw[eV,bm] at h2
   obtain⟨_,s,h5,h6⟩:=h2
   obtain⟨us,h3,rfl⟩:=hx
   obtain⟨vs,h4,rfl⟩:=hy
   obtain⟨i,hi,rfl,_⟩:=bZ hE h5
   rw[run_equalIn_array w d' _ _ hu hi]
   have:P.cellsOf e=i.size:=by simp[Program.cellsOf,hi]
   rw[this]
   exact zo hE ih h3 h4 w e _ _ b h6
theorem Ef {t:TypeId} {x y:SVal} {b:Bool} (h:P1 E 100 t x y=some b) {c:Ctx} {u v:Value} (hx:Den c x u) (hy:Den c y v) (w:World):(Op.equal t u v).run P w= .ok b w:=
 Oq hE 9900 100 t x y b h c u v w hx hy
end
def Ge:Value->Bool
 | .int _ _=>false
 | .string _=>false
 | .float _ _=>false
 | .complex _ _ _=>false
 |_=>true
theorem wW (t:TypeId) (u v:Value) (h:Ge u=true):binOp .eql t u v=(do pure (.bool (<-Op.equal t u v)):Sem Value):=by
 cases u<;>first|(cases h;done)|(cases v<;>rfl)
theorem G4 (t:TypeId) (u v:Value) (h:Ge u=true):binOp .neq t u v=(do pure (.bool (!(<-Op.equal t u v))):Sem Value):=by
 cases u<;>first|(cases h;done)|(cases v<;>rfl)
def vc:SVal->Bool
 | .int _ _=>false
 | .str _=>false
 | .dZ _=>false
 | .nilIface=>false
 | .iface _ _=>false
 |_=>true
theorem zw {c:Ctx} {x:SVal} {u:Value} (h:Den c x u) (hp:vc x=true):Ge u=true:=by
 cases x<;>first
  |(cases hp;done)
  |(cases h;rfl)
  |(obtain⟨l,_,rfl⟩:=h;rfl)
  |(obtain⟨⟨a,rfl⟩,_⟩:=h;rfl)
  |(obtain⟨⟨a,n,cap,rfl⟩,_⟩:=h;rfl)
  |(obtain⟨b,base,rfl,_⟩:=h;rfl)
  |(obtain⟨_,l,_,rfl⟩:=wc h;rfl)
  |(rcases h with⟨_,a,cap,rfl,_⟩|⟨b,base,size,cap,rfl,_⟩<;>rfl)
theorem DY {P:Program} {E:Env} (hE:bz P E) {t:TypeId} {x y:SVal} {b:Bool} (h:P1 E 100 t x y=some b) {c:Ctx} {u v:Value} (hx:Den c x u) (hp:vc x=true) (op:BinOp) (p q:Operand) (w:World):
  (eqGuard op t p q u v).run P w= .ok () w:=by
 cases x with
 |agg l=>
  obtain⟨us,_,rfl⟩:=hx
  have h':(eR (under E t) fun u=>Ov E (P1 E 99) t u (.agg l) y)=some b:=h
  rw[bm] at h'
  obtain⟨D,h1,h2⟩:=h'
  have ht:t∈E.eqs:=by
   unfold Ov at h2
   split at h2
   all_goals first
    |(rename_i hh;cases hh;done)
    |(rename_i hh _;cases hh;done)
    |(rename_i hh hh2;cases hh2;done)
    |(rename_i e1 e2;rw[eV] at h2;exact BP h2.1)
    |(cases h2;done)
    |skip
  have:=(hE.eqs t ht).2
  cases v with
  |agg vs=>exact run_eqGuard_agg w op t p q _ _ this
  |_=>cases op<;>rfl
 |ptr k off=>obtain⟨l,_,rfl⟩:=hx;rw[eqGuard_at_pointer];rfl
 |fv=>obtain⟨⟨a,rfl⟩,_⟩:=hx;rw[eqGuard_at_pointer];rfl
 |bR=>obtain⟨b,base,rfl,_⟩:=hx;rw[eqGuard_at_pointer];rfl
 |own=>obtain⟨⟨a,n,cap,rfl⟩,_⟩:=hx;rw[eqGuard_at_slice];rfl
 |aK=>rcases hx with⟨_,a,cap,rfl,_⟩|⟨b,base,size,cap,rfl,_⟩<;>(rw[eqGuard_at_slice];rfl)
 |map k=>obtain⟨l,_,rfl⟩:=hx;rw[eqGuard_at_map];rfl
 |func f a b=>obtain⟨_,l,_,rfl⟩:=wc hx;rw[eqGuard_at_func];rfl
 |bool c=>cases hx;rw[eqGuard_at_bool];rfl
 |nilPtr=>cases hx;rw[eqGuard_at_pointer];rfl
 |aD=>cases hx;rw[eqGuard_at_slice];rfl
 |eJ=>cases hx;rw[eqGuard_at_map];rfl
 |fY=>cases hx;rw[eqGuard_at_nilFunc];rfl
 |_=>cases hp
section
variable {P:Program} {E:Env} {o:Oper} {ev:jr} {st:St}
theorem T5 (hE:bz P E) {t ty:TypeId} {x y:Operand} {a b:SVal} {r:Bool} (ho:o.op= .binOp .eql t x y ty) (hx:ev x=some a) (hy:ev y=some b) (hp:vc a=true) (h:P1 E 100 t a b=some r):bG P o ev st (.bool r) st:=
 eY ho hx hy fun c u v hu hv=>⟨_,rfl,fun w=>by
  simp only[Sem.run_bind,DY hE h hu hp,Result.andThen_ok,wW t u v (zw hu hp),Ef hE h hu hv w,Sem.run_pure]⟩
theorem T4 (hE:bz P E) {t ty:TypeId} {x y:Operand} {a b:SVal} {r:Bool} (ho:o.op= .binOp .neq t x y ty) (hx:ev x=some a) (hy:ev y=some b) (hp:vc a=true) (h:P1 E 100 t a b=some r):bG P o ev st (.bool (!r)) st:=
 eY ho hx hy fun c u v hu hv=>⟨_,rfl,fun w=>by
  simp only[Sem.run_bind,DY hE h hu hp,Result.andThen_ok,G4 t u v (zw hu hp),Ef hE h hu hv w,Sem.run_pure]⟩
def Km:SVal->Nat->Option SVal
 | .ptr k off,n=>some (.ptr k (off+n))
 | .fv k s i off,n=>some (.fv k s i (off+n))
 | .bR row off,n=>some (.bR row (off+n))
 |_,_=>none
theorem C8 {c:Ctx} {x s:SVal} {n:Nat} (h:Km x n=some s) {u:Value} (hx:Den c x u):∃b o,u= .pointer (some ⟨b,o,none⟩)/\Den c s (.pointer (some ⟨b,o+n,none⟩))\/(∃a,u= .pointer (some a))/\∀a',Den c s (.pointer (some a')):=by
 unfold Km at h
 split at h
 ·cases h
  obtain⟨b,h1,rfl⟩:=hx
  exact⟨b,_,.inl ⟨rfl,b,h1,rfl⟩⟩
 ·rename_i k t i off
  cases h
  obtain⟨⟨a,rfl⟩,b,st,sz,u',h1,h2,h3⟩:=hx
  by_cases e:st=t
  ·obtain⟨r,rfl,h4⟩:=h3 e
   simp only[Value.pointer.injEq,WN] at h4
   subst h4
   exact⟨r,_,.inl ⟨rfl,⟨_,rfl⟩,_,st,sz,u',h1,h2,fun _=>⟨r,rfl,by rw[Xt]⟩⟩⟩
  ·exact⟨0,0,.inr ⟨⟨a,rfl⟩,fun a'=>⟨⟨_,rfl⟩,b,st,sz,u',h1,h2,fun e'=>absurd e' e⟩⟩⟩
 ·cases h
  obtain⟨b,base,rfl,h1⟩:=hx
  exact⟨b,_,.inl ⟨rfl,b,base,by rw[Xt],h1⟩⟩
 ·cases h
theorem se {t:TypeId} {f:Nat} {fs:Array Field} {fd:Field} (h2:P.underlying t=some (.struct fs)) (h3:fs[f]? =some fd) {n:Nat} (hs:∀w,(Go.sizeOf fd.type).run P w= .ok n w) (h0:n≠0) (a:Addr) (w:World):
  (Instr.fieldAt t (.pointer (some a)) f).run P w= .ok (.pointer (some (a.add fd.offset))) w:=by
 simp only[Instr.fieldAt,Sem.run_bind,run_underlying h2,Result.andThen_ok,h3,Instr.sureAddr,Sem.run_pure,fieldPlace,hs,h0,X6]
theorem xK (hE:bz P E) {t:TypeId} {x:Operand} {f:Nat} {fd:Field} {p s:SVal} {n:Nat} (ho:o.op= .fieldAddr t x f) (hf:rG E t f=some fd) (hx:ev x=some p) (hn:cQ E fd.type=some n) (h1:Nat.ble 1 n=true) (hp:Km p fd.offset=some s):bG P o ev st s st:=
 ⟨by simp[ho],eS.refl _,fun{c w} hr _ _ {e} he=>by
  obtain⟨fs,h2,h3⟩:=sH hE hf
  obtain⟨i,_,rfl,hs⟩:=bZ hE hn
  have h0:i.size≠0:=by have:=cU h1;omega
  have hd:=he x (by simp[ho,Op.operands]) _ hx
  obtain⟨b,off,h⟩:=C8 hp hd
  have:execOp e o=(do pure (.value (<-Instr.fieldAt t (e x) f)):Sem Next):=by simp only[execOp,ho]
  rcases h with⟨h4,h5⟩|⟨⟨a,h4⟩,h5⟩
  ·rw[h4] at this
   exact dQ.val this (mY.same hr (se h2 h3 hs h0 _ w) (by rw[gx];exact h5))
  ·rw[h4] at this
   exact dQ.val this (mY.same hr (se h2 h3 hs h0 _ w) (h5 _))⟩
theorem J4 (hE:bz P E) {t:TypeId} {x:Operand} {f:Nat} {fd:Field} {l:List SVal} {s:SVal} (ho:o.op= .field t x f) (hf:rG E t f=some fd) (hx:ev x=some (.agg l)) (hp:vd E fd.type l fd.offset=some s):bG P o ev st s st:=
 ⟨by simp[ho],eS.refl _,fun{c w} hr _ _ {e} he=>by
  obtain⟨fs,h2,h3⟩:=sH hE hf
  obtain⟨vs,h4,h5⟩:=he x (by simp[ho,Op.operands]) _ hx
  obtain⟨v,h6,h7⟩:=gK hE hp h4
  refine dQ.val (S:=Instr.field t (e x) f) (by simp only[execOp,ho]) (mY.same hr (v:=v) ?_ h6)
  simp only[Instr.field,Sem.run_bind,run_underlying h2,Result.andThen_ok,h3,h5,asAgg,Sem.run_pure,h7]⟩
theorem MD (hE:bz P E) {t:TypeId} {x:Operand} {p s:SVal} {l:List SVal} (ho:o.op= .load t x) (hx:ev x=some p) (hl:lG st p l) (hs:sA E t l=some s):bG P o ev st s st:=
 ⟨by simp[ho],eS.refl _,fun{c w} hr _ _ {e} he=>by
  obtain⟨b,off,h1,h2⟩:=hl.spec hr (he x (by simp[ho,Op.operands]) _ hx)
  obtain⟨v,h3,h4⟩:=vu (P:=P) hE h2 hs
  refine dQ.val (S:=Instr.loadAt t (e x)) (by simp only[execOp,ho]) (mY.same hr (v:=v) ?_ h3)
  simp only[h1,Instr.loadAt,Sem.run_bind,Instr.sureAddr,Sem.run_pure,Result.andThen_ok,h4]⟩
theorem J3 (hE:bz P E) {t:TypeId} {x y:Operand} {p s:SVal} {n:Nat} {st':St} (ho:o.op= .store t x y) (hx:ev x=some p) (hy:ev y=some s) (hn:cQ E t=some n) (hl:Nat.beq (bX s).length n=true) (hf:sF (bX s)) (hp:P5 st p (bX s) st'):bG P o ev st (.dZ []) st':=
 ⟨by simp[ho],hp.eX,fun{c w} hr _ _ {e} he=>by
  have hd:=he y (by simp[ho,Op.operands]) _ hy
  have hs:=dX hd
  obtain⟨b,off,w',h1,h2,h3,h4⟩:=hp.ok hr (he x (by simp[ho,Op.operands]) _ hx) hs hf
  obtain⟨i,_,rfl,hsr⟩:=bZ hE hn
  have hl:(bX s).length=i.size:=Xy hl
  have hc:(e y).cells.size=i.size:=by have:=hs.length;simpa[hl] using this
  refine dQ.skip (S:=Instr.storeAt t (e x) (e y)) (by simp only[execOp,ho]) ?_ h3 h4
  simp only[h1,Instr.storeAt,Instr.sureAddr,Sem.run_bind,Sem.run_pure,Result.andThen_ok,storeVar,hsr w,hc,ne_eq,not_true,X6,h2 P]⟩
theorem jy {t elem:TypeId} {n cap:Nat} {d:TypeDesc} {j:Nat} {a:Addr} {k:IntKind} {v:Value} (hu:P.underlying t=some d) (hv:(d= .array n elem/\v= .pointer (some a))\/(d= .slice elem/\v= .slice (some a) n cap)) {sz:Nat} (hs:∀w,(Go.sizeOf elem).run P w= .ok sz w) (hj:j<n) (w:World):
  (Instr.indexAt t v (.int k j)).run P w= .ok (.pointer (some (a.add (j*sz)))) w:=by
 have hj:(0:Int)<=(j:Int)/\(j:Int)<(n:Int):=by omega
 rcases hv with⟨rfl,rfl⟩|⟨rfl,rfl⟩
 ·simp only[Instr.indexAt,Sem.run_bind,asIntOf,Sem.run_pure,Result.andThen_ok,run_underlying hu,Instr.sureAddr,hj,and_self,Yk,hs,WR]
 ·simp only[Instr.indexAt,Sem.run_bind,asIntOf,Sem.run_pure,Result.andThen_ok,run_underlying hu,hj,and_self,Yk,hs,WR]
theorem xH (hE:bz P E) {t elem:TypeId} {x ix:Operand} {k:IntKind} {n:Int} {j sz:Nat} {f:Bool} {rows:List (List SVal)} {row:List SVal} (ho:o.op= .indexAddr t x ix) (hix:ev ix=some (.int k n)) (hx:ev x=some (.aK f rows))
  (ht:dz E t=some elem) (hsz:cQ E elem=some sz) (hn:n=(j:Int)) (hrow:rows[j]? =some row) (hl:row.length=sz):bG P o ev st (.bR row 0) st:=
 ⟨by simp[ho],eS.refl _,fun{c w} hr _ _ {e} he=>by
  have hu:=cu hE ht
  obtain⟨i,_,rfl,hs⟩:=bZ hE hsz
  have hj:j<rows.length:=(VZ.1 hrow).1
  subst hn
  have hi:e ix= .int k j:=he ix (by simp[ho,Op.operands]) _ hix
  rcases he x (by simp[ho,Op.operands]) _ hx with⟨h,_⟩|⟨b,base,size,cap,h1,h2,h3,h4⟩
  ·rw[h] at hj;simp at hj
  ·obtain⟨h5,h6⟩:=h4.get hrow
   refine dQ.val (S:=Instr.indexAt t (e x) (e ix)) (by simp only[execOp,ho]) (mY.same hr (v:= .pointer (some ⟨b,base+j*i.size,none⟩)) ?_ ⟨b,base+j*i.size,rfl,by rw[<-hl,h5];exact h6⟩)
   rw[hi,h1,jy hu (.inr ⟨rfl,rfl⟩) hs hj,gx]⟩
theorem xG (hE:bz P E) {t elem:TypeId} {x ix:Operand} {k:IntKind} {n:Int} {j sz r s:Nat} {z:Bool} {rows:List (List SVal)} (ho:o.op= .indexAddr t x ix) (hix:ev ix=some (.int k n)) (hx:ev x=some (.own r s)) (hk:st.look r=some (.row sz rows s z))
  (ht:dz E t=some elem) (hsz:cQ E elem=some sz) (hn:n=(j:Int)) (hj:j<rows.length):bG P o ev st (.fv r s j 0) st:=
 ⟨by simp[ho],eS.refl _,fun{c w} hr _ _ {e} he=>by
  have hu:=cu hE ht
  obtain⟨i,_,rfl,hs⟩:=bZ hE hsz
  subst hn
  have hi:e ix= .int k j:=he ix (by simp[ho,Op.operands]) _ hix
  obtain⟨_,ob,st0,sz0,u,h1,h2,h3⟩:=he x (by simp[ho,Op.operands]) _ hx
  obtain⟨l',h4,h5⟩:=hr.dO _ _ hk
  rw[h1] at h4
  cases h4
  obtain⟨rfl,rfl,h5⟩:=h5
  cases ob with
  |none=>obtain⟨rfl,_⟩:=h5;simp at hj
  |some b=>
   obtain⟨arr,ee,cap,h5⟩:=h5
   refine dQ.val (S:=Instr.indexAt t (e x) (e ix)) (by simp only[execOp,ho]) (mY.same hr (v:= .pointer (some ⟨b,j*i.size,none⟩)) ?_ ⟨⟨_,rfl⟩,some b,_,_,u,h1,V2 _,fun _=>⟨b,rfl,rfl⟩⟩)
   rw[hi,h3 rfl,h5.val,jy hu (.inr ⟨rfl,rfl⟩) hs hj,gx]
   simp⟩
theorem uH (hE:bz P E) {t elem:TypeId} {x ix:Operand} {k:IntKind} {n:Int} {j sz m:Nat} {p s:SVal} (ho:o.op= .indexAddr t x ix) (hix:ev ix=some (.int k n)) (hx:ev x=some p) (ht:under E t=some (.array m elem)) (hsz:cQ E elem=some sz) (hn:n=(j:Int)) (hj:j<m)
  (hp:Km p (j*sz)=some s):bG P o ev st s st:=
 ⟨by simp[ho],eS.refl _,fun{c w} hr _ _ {e} he=>by
  have hu:=bS hE ht
  obtain⟨i,_,rfl,hs⟩:=bZ hE hsz
  subst hn
  have hi:e ix= .int k j:=he ix (by simp[ho,Op.operands]) _ hix
  obtain⟨b,off,h⟩:=C8 hp (he x (by simp[ho,Op.operands]) _ hx)
  have:execOp e o=(do pure (.value (<-Instr.indexAt t (e x) (e ix))):Sem Next):=by simp only[execOp,ho]
  rcases h with⟨h4,h5⟩|⟨⟨a,h4⟩,h5⟩
  ·rw[h4,hi] at this
   exact dQ.val this (mY.same hr (jy (cap:=0) hu (.inl ⟨rfl,rfl⟩) hs hj w) (by rw[gx];exact h5))
  ·rw[h4,hi] at this
   exact dQ.val this (mY.same hr (jy (cap:=0) hu (.inl ⟨rfl,rfl⟩) hs hj w) (h5 _))⟩
theorem xE (hE:bz P E) {t:TypeId} {x ix:Operand} {k:IntKind} {n:Int} {j:Nat} {l:List UInt8} {b:UInt8} (ho:o.op= .index t x ix) (hix:ev ix=some (.int k n)) (hx:ev x=some (.str l)) (ht:under E t=some .string) (hn:n=(j:Int)) (hb:l[j]? =some b):bG P o ev st (.int .u8 b.toNat) st:=
 ⟨by simp[ho],eS.refl _,fun{c w} hr _ _ {e} he=>by
  have hu:=bS hE ht
  subst hn
  have hi:e ix= .int k j:=he ix (by simp[ho,Op.operands]) _ hix
  have hs:e x= .string ⟨l.toArray⟩:=he x (by simp[ho,Op.operands]) _ hx
  refine dQ.val (S:=Instr.index t (e x) (e ix)) (by simp only[execOp,ho]) (mY.same hr (v:= .int .u8 b.toNat) ?_ rfl)
  have hb:(⟨l.toArray⟩:ByteArray)[j]? =some b:=by
   have h5:=(VZ.1 hb).1
   rw[getElem?_pos (⟨l.toArray⟩:ByteArray) j h5]
   obtain⟨_,h9⟩:=VZ.1 hb
   exact W4 some h9
  have hj:(0:Int)<=(j:Int):=by omega
  simp only[hi,hs,Instr.index,Sem.run_bind,asIntOf,Sem.run_pure,Result.andThen_ok,run_underlying hu,hj,Yk,WR,hb]⟩
theorem xJ (hE:bz P E) {t elem:TypeId} {x ix:Operand} {k:IntKind} {n:Int} {j m sz:Nat} {l:List SVal} {s:SVal} (ho:o.op= .index t x ix) (hix:ev ix=some (.int k n)) (hx:ev x=some (.agg l)) (ht:under E t=some (.array m elem)) (hsz:cQ E elem=some sz) (hn:n=(j:Int)) (hj:j<m)
  (hs:vd E elem l (j*sz)=some s):bG P o ev st s st:=
 ⟨by simp[ho],eS.refl _,fun{c w} hr _ _ {e} he=>by
  have hu:=bS hE ht
  obtain⟨i,_,rfl,hsr⟩:=bZ hE hsz
  subst hn
  have hi:e ix= .int k j:=he ix (by simp[ho,Op.operands]) _ hix
  obtain⟨vs,h1,h2⟩:=he x (by simp[ho,Op.operands]) _ hx
  obtain⟨v,h3,h4⟩:=gK hE hs h1
  refine dQ.val (S:=Instr.index t (e x) (e ix)) (by simp only[execOp,ho]) (mY.same hr (v:=v) ?_ h3)
  have hj:(0:Int)<=(j:Int)/\(j:Int)<(m:Int):=by omega
  simp only[hi,h2,Instr.index,Sem.run_bind,asIntOf,Sem.run_pure,Result.andThen_ok,run_underlying hu,hj,and_self,Yk,hsr,WR]
  exact h4 w⟩
theorem CI {x:Operand} {i:Nat} {l:List SVal} {s:SVal} (ho:o.op= .extract x i) (hx:ev x=some (.dZ l)) (hs:l[i]? =some s):bG P o ev st s st:=
 ⟨by simp[ho],eS.refl _,fun{c w} hr _ _ {e} he=>by
  obtain⟨vs,h1,h2⟩:=he x (by simp[ho,Op.operands]) _ hx
  obtain⟨u,h3,h4⟩:=h1.get hs
  exact dQ.same hr (v:=u) (by simp[execOp,ho,h2,Instr.extract,h3]) h4⟩
theorem Az (hE:bz P E) {a b:TypeId} {x:Operand} {k k' k2:IntKind} {n:Int} (ho:o.op= .convert a b x) (hx:ev x=some (.int k n)) (ha:under E a=some (.int k2)) (hb:under E b=some (.int k')) (hr:ym k' n):bG P o ev st (.int k' n) st:=
 ⟨by simp[ho],eS.refl _,fun{c w} hrep _ _ {e} he=>by
  have hd:e x= .int k n:=he x (by simp[ho,Op.operands]) _ hx
  refine dQ.val (S:=convert a b (e x)) (by simp only[execOp,ho]) (mY.same hrep (v:= .int k' n) ?_ rfl)
  simp[hd,convert,run_underlying (bS hE ha),run_underlying (bS hE hb),Conv.intToInt,hr.wrap]⟩
theorem Ay (hE:bz P E) {a b:TypeId} {x:Operand} {l:List UInt8} (ho:o.op= .convert a b x) (hx:ev x=some (.str l)) (ha:under E a=some .string) (hb:under E b=some .string):bG P o ev st (.str l) st:=
 ⟨by simp[ho],eS.refl _,fun{c w} hrep _ _ {e} he=>by
  have hd:e x= .string ⟨l.toArray⟩:=he x (by simp[ho,Op.operands]) _ hx
  refine dQ.val (S:=convert a b (e x)) (by simp only[execOp,ho]) (mY.same hrep (v:= .string ⟨l.toArray⟩) ?_ rfl)
  simp[hd,convert,run_underlying (bS hE ha),run_underlying (bS hE hb)]⟩
noncomputable def lZ (ev:jr) (l:List Operand):Option (List SVal):=
 List.rec (motive:=fun _=>Option (List SVal)) (some []) (fun x _ ih=>eR (ev x) fun v=>eR ih fun l=>some (v::l)) l
noncomputable def Ee (ev:jr) (l:List (Nat×Operand)):Option (List (Nat×SVal)):=
 List.rec (motive:=fun _=>Option (List (Nat×SVal))) (some []) (fun p _ ih=>eR (ev p.2) fun v=>eR ih fun l=>some ((p.1,v)::l)) l
def xg (c:Ctx):List (Nat×SVal)->List (Nat×Value)->Prop
 |[],[]=>True
 |p::ps,q::qs=>q.1=p.1/\Den c p.2 q.2/\xg c ps qs
 |_,_=>False
theorem n9 {e:Operand->Value} {c:Ctx}:∀{l:List Operand} {ss:List SVal},(∀x,x∈l->∀s,ev x=some s->Den c s (e x))->lZ ev l=some ss->aQ c ss (l.map e)
 |[],ss,_,h=>by cases h;rfl
 |x::l,ss,he,h=>by
  have h:eR (ev x) (fun v=>eR (lZ ev l) fun l=>some (v::l))=some ss:=h
  rw[bm] at h
  obtain⟨v,h1,h⟩:=h
  rw[bm] at h
  obtain⟨vs,h2,h3⟩:=h
  cases h3
  exact⟨_,_,he x (.head _) v h1,n9 (fun y hy=>he y (.tail _ hy)) h2,rfl⟩
theorem vZ {e:Operand->Value} {c:Ctx}:∀{l:List (Nat×Operand)} {ss:List (Nat×SVal)},(∀p∈l,∀s,ev p.2=some s->Den c s (e p.2))->Ee ev l=some ss->xg c ss (l.map fun p=>(p.1,e p.2))
 |[],ss,_,h=>by cases h;trivial
 |p::l,ss,he,h=>by
  have h:eR (ev p.2) (fun v=>eR (Ee ev l) fun l=>some ((p.1,v)::l))=some ss:=h
  rw[bm] at h
  obtain⟨v,h1,h⟩:=h
  rw[bm] at h
  obtain⟨vs,h2,h3⟩:=h
  cases h3
  exact⟨rfl,he _ (.head _) v h1,vZ (fun y hy=>he y (.tail _ hy)) h2⟩
theorem nL {α β:Type} (f:α->β) (a:Array α):(a.toList.map f).toArray=a.map f:=Array.ext' (by simp)
theorem Aw {fn:Fn} {first cap:Array Operand} {a b:List SVal} (ho:o.op= .makeFunc fn first cap) (hf:dF fn=true) (ha:lZ ev first.toList=some a) (hb:lZ ev cap.toList=some b):bG P o ev st (.func fn a b) st:=
 ⟨by simp[ho],eS.refl _,fun{c w} hr _ _ {e} he=>by
  have h1:=n9 (e:=e) (c:=c) (fun y hy=>he y (by rw[ho];simp only[Op.operands,XO];exact Wu _ hy)) ha
  have h2:=n9 (e:=e) (c:=c) (fun y hy=>he y (by rw[ho];simp only[Op.operands,XO];exact WB _ hy)) hb
  refine dQ.same hr (v:= .func fn (first.map e) (cap.map e)) (by simp[execOp,ho,Instr.makeFunc]) ?_
  cases fn<;>first
   |exact⟨_,_,h1,h2,by rw[nL,nL]⟩
   |cases hf⟩
noncomputable def places (E:Env):List Field->Option (List (Nat×Nat))
 |[]=>some []
 |f::r=>eR (cQ E f.type) fun s=>eR (places E r) fun l=>some ((f.offset,s)::l)
noncomputable def sG (place:Nat->Option (Nat×Nat)) (cells:List SVal) (ps:List (Nat×SVal)):Option (List SVal):=
 List.rec (motive:=fun _=>List SVal->Option (List SVal)) some
  (fun p _ ih cells=>eR (place p.1) fun q=>Af (Nat.beq (bX p.2).length q.2) (Af (Nat.ble (q.1+(bX p.2).length) cells.length) (ih (over cells q.1 (bX p.2))))) ps cells
theorem DB:∀(vs:List Value) (k:Nat) (cs:Array Value) (off:Nat),off+k+vs.length<=cs.size->
  (vs.zipIdx k).foldl (fun cs p=>cs.setIfInBounds (off+p.2) p.1) cs=(cs.toList.take (off+k)++(vs++cs.toList.drop (off+k+vs.length))).toArray
 |[],k,cs,off,h=>by simp
 |v::vs,k,cs,off,h=>by
  rw[List.zipIdx_cons,WX,DB vs (k+1) _ off (by simp at h⊢;omega)]
  simp only[V5] at h
  refine W4 List.toArray ?_
  simp only[Array.toList_setIfInBounds]
  rw[show off+(k+1)=off+k+1 from by omega,W6,Xx ii,List.drop_set_of_lt ii]
  rw[Xr (by simp;omega)]
  simp[Xt,Nat.add_comm 1]
theorem Nd {c:Ctx} {cells v:List SVal} {vs us:List Value} {off:Nat} (h:off+v.length<=cells.length) (hd:aQ c cells vs) (hv:aQ c v us):aQ c (over cells off v) (vs.take off++(us++vs.drop (off+v.length))):=by
 rw[p8 _ _ _ h]
 exact aQ.append.2 ⟨_,_,hd.take off,aQ.append.2 ⟨_,_,hv,hd.drop _,rfl⟩,rfl⟩
theorem tN {c:Ctx} (pl:Nat->Option (Nat×Nat)):∀{ps:List (Nat×SVal)} {us:List (Nat×Value)} {cells r:List SVal} {vs:List Value},sG pl cells ps=some r->xg c ps us->aQ c cells vs->
  ∃rs,Instr.fill pl vs.toArray us=some rs.toArray/\aQ c r rs
 |[],us,cells,r,vs,h,hp,hd=>by
  cases us with
  |nil=>cases h;exact⟨vs,rfl,hd⟩
  |cons q qs=>exact hp.elim
 |p::ps,us,cells,r,vs,h,hp,hd=>by
  cases us with
  |nil=>exact hp.elim
  |cons q qs=>
   obtain⟨i,u⟩:=q
   obtain⟨e1,e2,hp⟩:=hp
   simp only at e1 e2
   subst e1
   have h:eR (pl p.1) (fun q=>Af (Nat.beq (bX p.2).length q.2) (Af (Nat.ble (q.1+(bX p.2).length) cells.length) (sG pl (over cells q.1 (bX p.2)) ps)))=some r:=h
   rw[bm] at h
   obtain⟨⟨off,size⟩,h1,h⟩:=h
   rw[eV,eV] at h
   obtain⟨h2,h5,h4⟩:=h
   have h5:off+(bX p.2).length<=cells.length:=cU h5
   have hs:=dX e2
   have hl:=hs.length
   have hlv:=hd.length
   have h2:(bX p.2).length=size:=Xy h2
   have hl:u.cells.size=(bX p.2).length:=by simpa using hl
   obtain⟨rs,h7,h8⟩:=tN pl h4 hp (Nd h5 hd hs)
   refine⟨rs,?_,h8⟩
   rw[Instr.fill,h1]
   simp only
   rw[TP (by simp;omega),<-h7]
   congr 1
   rw[<-Ys,Array.toList_zipIdx]
   have:=DB u.cells.toList 0 vs.toArray off (by simp;omega)
   simp only[W9,Ym,hl] at this
   exact this
noncomputable def tT (E:Env) (z:List SVal) (ps:List (Nat×SVal)):TypeDesc->Option SVal
 | .struct fs=>eR (places E fs.toList) fun pl=>eR (sG (fun i=>pl[i]?) z ps) fun l=>some (.agg l)
 | .array _ elem=>eR (cQ E elem) fun size=>eR (sG (fun i=>some (i*size,size)) z ps) fun l=>some (.agg l)
 |_=>none
theorem yE (hE:bz P E) {t:TypeId} {parts:Array (Nat×Operand)} {z s:SVal} {d:TypeDesc} {ps:List (Nat×SVal)} (ho:o.op= .build t parts) (hz:iG E t=some z) (hd:under E t=some d) (hps:Ee ev parts.toList=some ps) (h:tT E (bX z) ps d=some s):bG P o ev st s st:=
 ⟨by simp[ho],eS.refl _,fun{c w} hr _ _ {e} he=>by
  have hp:=vZ (e:=e) (c:=c) (fun p hp=>he p.2 (by rw[ho];simp only[Op.operands,WQ];exact⟨p,hp,rfl⟩)) hps
  obtain⟨it,zv,hit,hzv,hdz,_⟩:=eH hE hz
  have hu:=bS hE hd
  have hs:=dX (hdz c)
  have pl:∀(fs:List Field) (l:List (Nat×Nat)),places E fs=some l->fs.mapM (fun f=>(P.info? f.type).map fun i=>(f.offset,i.size))=some l:=by
   intro fs
   induction fs with
   |nil=>intro l hl;cases hl;rfl
   |cons f fs ih=>
    intro l hl
    unfold places at hl
    rw[bm] at hl
    obtain⟨n,h1,hl⟩:=hl
    rw[bm] at hl
    obtain⟨l',h2,h3⟩:=hl
    cases h3
    obtain⟨i,hi,rfl,_⟩:=bZ hE h1
    simp[List.mapM_cons,hi,ih l' h2]
  have fin:∃v,Den c s v/\(Instr.build t (parts.toList.map fun p=>(p.1,e p.2)).toArray).run P w= .ok v w:=by
   unfold tT at h
   split at h
   ·rename_i fs
    rw[bm] at h
    obtain⟨l,h1,h⟩:=h
    rw[bm] at h
    obtain⟨r,h2,h3⟩:=h
    cases h3
    obtain⟨rs,h4,h5⟩:=tN _ h2 hp hs
    refine⟨.agg rs.toArray,⟨rs,h5,rfl⟩,run_build w t _ _ ?_⟩
    simp only[Program.built,hit,hu,hzv,pl _ _ h1]
    simpa using h4
   ·rename_i n e
    rw[bm] at h
    obtain⟨size,h1,h⟩:=h
    rw[bm] at h
    obtain⟨r,h2,h3⟩:=h
    cases h3
    obtain⟨ie,hie,rfl,_⟩:=bZ hE h1
    obtain⟨rs,h4,h5⟩:=tN _ h2 hp hs
    refine⟨.agg rs.toArray,⟨rs,h5,rfl⟩,run_build w t _ _ ?_⟩
    simp only[Program.built,hit,hu,hzv,hie]
    simpa using h4
   ·cases h
  obtain⟨v,h1,h2⟩:=fin
  refine dQ.same hr (v:=v) ?_ h1
  simp only[execOp,ho,Sem.run_bind]
  rw[nL] at h2
  rw[h2]
  rfl⟩
end
theorem Gy {c:Ctx} {H:gy} {w:World} (hr:dM c H w) {b:Nat} (hb:w.heap.size<=b) (i:Nat) (v:Value):c.fz b i≠some v:=fun h=>by
 have:=D6 hr h
 omega
theorem fS (w:World) (o:Obj):(w.alloc o).heap[w.heap.size]? =some o:=by show(w.heap.push o)[w.heap.size]? =_;simp
theorem Uq {st:St} {c:Ctx} {w:World} (hr:dM c st.look w) (hf:c.ρ st.next=none) (hwf:Wf st) {cs:List SVal} {arr:Array Value} (hd:aQ c cs arr.toList) (e:TypeId):
  dM (ir c st.next (.box w.heap.size)) (st.fresh (.cells cs)).look (w.alloc (.cells arr e))/\Step st.next (st.fresh (.cells cs)).next c st.look w (ir c st.next (.box w.heap.size)) (st.fresh (.cells cs)).look (w.alloc (.cells arr e)):=
 gQ hr hf hwf (dj.alloc w _) (fun b hb=>by cases hb;exact V2 _)
  ⟨arr,e,fS w _,aQ.le (qK _ hf) _ _ hd,fun i v=>Gy hr (V2 _) i v⟩
section
variable {P:Program} {E:Env} {o:Oper} {ev:jr} {st:St}
theorem uF (hnd:∀d,o.op≠.defer d) {s:SVal} {elem:TypeId} {S:(Operand->Value)->World->Sem Value} (hS:∀e w,execOp e o=(do pure (.value (<-S e w)):Sem Next))
  (h:∀{c:Ctx} {w:World} {e:Operand->Value},(∀x∈o.op.operands.toList,∀s,ev x=some s->Den c s (e x))->∃v,Den c s v/\(S e w).run P w=(do pure (.pointer (some (<-newVar elem v))):Sem Value).run P w):bG P o ev st (.ptr st.next 0) (st.fresh (.cells (bX s))):=
 ⟨hnd,dE _ _,fun{c w} hr hwf hf {e} he=>by
  have hk:c.ρ st.next=none:=hf _ (V2 _) (WW _)
  obtain⟨v,hd,hrun⟩:=h (w:=w) he
  obtain⟨h1,h2⟩:=Uq hr hk hwf (dX hd) elem
  refine dQ.val (hS e w) ⟨_,.pointer (some ⟨w.heap.size,0,none⟩),_,?_,⟨_,cI _ _ _,rfl⟩,h1,h2⟩
  rw[hrun]
  simp[newVar,newRow]⟩
theorem J6 (hE:bz P E) {elem:TypeId} {z:SVal} (ho:o.op= .alloc elem) (hz:iG E elem=some z):bG P o ev st (.ptr st.next 0) (st.fresh (.cells (bX z))):=
 uF (elem:=elem) (S:=fun _ _=>Instr.alloc elem true (.tuple #[])) (by simp[ho]) (fun e w=>by simp only[execOp,ho]) fun{c w e} he=>by
  obtain⟨i,zv,_,_,hd,hrun⟩:=eH hE hz
  exact⟨zv,hd c,by simp only[Instr.alloc,Sem.run_bind,hrun w,Result.andThen_ok]⟩
theorem QR {elem:TypeId} {x:Operand} {s:SVal} (ho:o.op= .box elem x) (hx:ev x=some s):bG P o ev st (.ptr st.next 0) (st.fresh (.cells (bX s))):=
 uF (elem:=elem) (S:=fun e _=>Instr.box elem (e x)) (by simp[ho]) (fun e w=>by simp only[execOp,ho]) fun{c w e} he=>⟨e x,he x (by simp[ho,Op.operands]) _ hx,rfl⟩
theorem CD {t:TypeId} (ho:o.op= .makeMap t none):bG P o ev st (.map st.next) (st.fresh (.map [])):=
 ⟨by simp[ho],dE _ _,fun{c w} hr hwf hf {e} he=>by
  have hk:c.ρ st.next=none:=hf _ (V2 _) (WW _)
  obtain⟨h1,h2⟩:=gQ (o:= .map []) (l:= .box w.heap.size) hr hk hwf (dj.alloc w (.map #[] 0)) (fun b hb=>by cases hb;exact V2 _) ⟨#[],0,fS w _,rfl,fun i p hp=>by simp at hp⟩
  refine dQ.val (S:=Instr.makeMap t none) (by simp only[execOp,ho];rfl) ⟨_,.map (some w.heap.size),_,?_,⟨_,cI _ _ _,rfl⟩,h1,h2⟩
  simp[Instr.makeMap]⟩
end
theorem jG:∀{α:Type} {sz:Nat} {rows:List (List α)} {i j:Nat} {row:List α},(∀r∈rows,r.length=sz)->rows[i]? =some row->j<sz->rows.flatten[i*sz+j]? =row[j]?
 |α,sz,[],i,j,row,h,hr,_=>by simp at hr
 |α,sz,r::rows,0,j,row,h,hr,hj=>by
  simp only[XR,WN] at hr
  subst hr
  have:=h r (.head _)
  rw[Xo,Nat.zero_mul,WU,Wi ii]
 |α,sz,r::rows,i+1,j,row,h,hr,hj=>by
  have hl:=h r (.head _)
  rw[Xo,Wh (by rw[hl,WZ];omega),hl,show(i+1)*sz+j-sz=i*sz+j from by rw[WZ];omega]
  exact jG (fun x hx=>h x (.tail _ hx)) (by simpa using hr) hj
theorem gh:∀{α:Type} {sz:Nat} {rows:List (List α)},(∀r∈rows,r.length=sz)->rows.flatten.length=rows.length*sz
 |α,sz,[],_=>by simp
 |α,sz,r::rows,h=>by
  rw[Xo,V7,gh (fun x hx=>h x (.tail _ hx)),h r (.head _),V5,WZ]
  omega
theorem ez.len {c:Ctx} {rows:List (List SVal)} {sz:Nat} {arr:Array Value} (h:ez c rows sz arr):∀r∈rows,r.length=sz:=fun r hr=>by
 obtain⟨i,hi⟩:=Yi hr
 exact(h i r hi).1
theorem ez.flat {c:Ctx} {rows:List (List SVal)} {sz:Nat} {arr:Array Value} (h:ez c rows sz arr) {q:Nat} {s:SVal} (hq:rows.flatten[q]? =some s):∃v,arr[q]? =some v/\v.oneCell'=true/\Den c s v:=by
 have hlen:=h.len
 have hlt:q<rows.length*sz:=by rw[<-gh hlen];exact(VZ.1 hq).1
 have hsz:0<sz:=Nat.pos_of_ne_zero fun e=>by rw[e] at hlt;omega
 have hi:q/sz<rows.length:=(Nat.div_lt_iff_lt_mul hsz).2 hlt
 have hj:q % sz<sz:=Nat.mod_lt _ hsz
 have hdm:q/sz*sz+q % sz=q:=by rw[X3];exact Nat.div_add_mod q sz
 have:=jG hlen (VV hi) hj
 rw[hdm,hq] at this
 obtain⟨v,h1,h2,h3⟩:=(h (q/sz) _ (VV hi)).2 (q % sz) s this.symm
 exact⟨v,by rw[<-hdm];exact h1,h2,h3⟩
theorem ez.of {c:Ctx} {rows:List (List SVal)} {sz:Nat} {arr:Array Value} (hlen:∀r∈rows,r.length=sz) (h:∀(q:Nat) (s:SVal),rows.flatten[q]? =some s->∃v,arr[q]? =some v/\v.oneCell'=true/\Den c s v):ez c rows sz arr:=fun i row hr=>
 ⟨hlen row (V6 hr),fun j s hs=>h _ s (by rw[jG hlen hr (by rw[<-hlen row (V6 hr)];exact(VZ.1 hs).1)];exact hs)⟩
theorem ez.denL {c:Ctx} {rows:List (List SVal)} {sz:Nat} {arr:Array Value} {n:Nat} (h:ez c rows sz arr) (hn:rows.length=n):aQ c rows.flatten (arr.toList.take (n*sz))/\(arr.toList.take (n*sz)).length=n*sz/\∀u∈arr.toList.take (n*sz),u.oneCell'=true:=by
 subst hn
 have hlen:=gh h.len
 have hsz:rows.length*sz<=arr.size:=by
  rcases W8 (rows.length*sz) with e|e
  ·omega
  ·have hq:rows.length*sz-1<rows.flatten.length:=by omega
   obtain⟨v,h1,_⟩:=h.flat (VV hq)
   have:=(Wl.1 h1).1
   omega
 refine⟨aQ.o9 (by simp[hlen];omega) fun i s hs=> ?_,by simp;omega,fun u hu=> ?_⟩
 ·have hi:i<rows.length*sz:=by rw[<-hlen];exact(VZ.1 hs).1
  obtain⟨v,h1,_,h2⟩:=h.flat hs
  exact⟨v,by rw[Xf,HP hi];simpa using h1,h2⟩
 ·obtain⟨i,hi⟩:=Yi hu
  have hlt:i<rows.length*sz:=by have:=(VZ.1 hi).1;simp at this;omega
  obtain⟨v,h1,h2,_⟩:=h.flat (VV (show i<rows.flatten.length by omega))
  rw[Xf,HP hlt,XX,h1] at hi
  cases hi
  exact h2
theorem bO.flat {c:Ctx} {b size:Nat}:∀{rows:List (List SVal)} {i:Nat},bO c b size rows i->(∀r∈rows,r.length=size)/\∀(q:Nat) (s:SVal),rows.flatten[q]? =some s->∃u,c.fz b (i+q)=some u/\u.oneCell'=true/\Den c s u
 |[],_,_=>⟨fun r h=>absurd h List.not_mem_nil,fun q s h=>absurd h (by simp)⟩
 |row::r,i,⟨h1,h2,h3⟩=>by
  obtain⟨h4,h5⟩:=bO.flat h3
  refine⟨fun x hx=>by rcases V9.1 hx with rfl|hx;exact h1;exact h4 x hx,fun q s hq=> ?_⟩
  rw[Xo] at hq
  by_cases e:q<row.length
  ·rw[Wi e] at hq
   exact h2.get hq
  ·rw[Wh ii] at hq
   obtain⟨u,h6,h7⟩:=h5 _ s hq
   exact⟨u,by rw[<-h6];congr 1;omega,h7⟩
theorem iM {w:World} {b:Nat} {arr:Array Value} {e:TypeId} {f:Nat×Nat} (h:w.heap[b]? =some (.cells arr e f)) (i:Nat):w.cell? ⟨b,i,none⟩=arr[i]? :=by simp[World.cell?,h]
inductive dr (st:St):SVal->List (List SVal)->Prop where
 |nil:dr st .aD []
 |aK {f:Bool} {rows:List (List SVal)}:dr st (.aK f rows) rows
 |own {k s m:Nat} {rows:List (List SVal)} {z:Bool}:st.look k=some (.row m rows s z)->dr st (.own k s) rows
theorem dr.spec {st:St} {x:SVal} {rows:List (List SVal)} (h:dr st x rows) {c:Ctx} {w:World} (hr:dM c st.look w) {u:Value} (hx:Den c x u) {sz:Nat} (hsz:∀r∈rows,r.length=sz):
  ∃a cap,u= .slice a rows.length cap/\rows.length<=cap/\∃news,aQ c rows.flatten news/\news.length=rows.length*sz/\(∀v∈news,v.oneCell'=true)/\
   (rows=[]\/∃b base,a=some ⟨b,base,none⟩/\∀j v,news[j]? =some v->w.cell? ⟨b,base+j,none⟩=some v):=by
 cases h with
 |nil=>cases hx;exact⟨none,0,rfl,V2 _,[],rfl,by simp,fun v hv=>(by cases hv),.inl rfl⟩
 |aK=>
  rcases hx with⟨rfl,a,cap,rfl,_⟩|⟨b,base,size,cap,rfl,h2,_,h4⟩
  ·exact⟨a,cap,rfl,Wd _,[],rfl,by simp,fun v hv=>(by cases hv),.inl rfl⟩
  ·rcases W8 rows.length with e|e
   ·have:=Wn.1 e
    subst this
    exact⟨_,cap,rfl,Wd _,[],rfl,by simp,fun v hv=>(by cases hv),.inl rfl⟩
   ·obtain⟨h5,h6⟩:=h4.flat
    have hs:size=sz:=by
     rw[<-h5 _ (WC e),hsz _ (WC e)]
    subst hs
    have hlen:=gh h5
    have key:∀q,q<rows.length*size->∃s v,rows.flatten[q]? =some s/\w.cell? ⟨b,base+q,none⟩=some v/\v.oneCell'=true/\Den c s v:=fun q hq=>by
     have hq':q<rows.flatten.length:=by omega
     obtain⟨v,h7,h8,h9⟩:=h6 q _ (VV hq')
     obtain⟨arr,ee,f,h10,h11⟩:=hr.fz _ _ _ h7
     exact⟨_,v,VV hq',by rw[iM h10];exact h11,h8,h9⟩
    refine⟨_,cap,rfl,h2,(List.range (rows.length*size)).map fun q=>(w.cell? ⟨b,base+q,none⟩).getD undef,aQ.o9 (by simp[hlen]) fun i s hs=> ?_,by simp,fun v hv=> ?_,.inr ⟨b,base,rfl,fun j v hv=> ?_⟩⟩
    ·have hi:i<rows.length*size:=by rw[<-hlen];exact(VZ.1 hs).1
     obtain⟨s',v,h7,h8,_,h9⟩:=key i hi
     rw[h7] at hs
     cases hs
     exact⟨v,by simp[hi,h8],h9⟩
    ·obtain⟨q,hq,rfl⟩:=WQ.1 hv
     obtain⟨s',v,h7,h8,h9,_⟩:=key q (XJ.1 hq)
     rw[h8];exact h9
    ·have hj:j<rows.length*size:=by have:=(VZ.1 hv).1;simpa using this
     obtain⟨s',v',h7,h8,h9,_⟩:=key j hj
     simp[hj,h8] at hv
     rw[h8,hv]
 |own hk=>
  obtain⟨_,ob,st0,sz0,u0,h1,h2,h3⟩:=hx
  obtain⟨rfl,rfl,h4⟩:=uV hr hk h1
  cases h3 rfl
  rcases h4 with⟨rfl,rfl,a,rfl⟩|⟨b,arr,ee,cap,rfl,h5⟩
  ·exact⟨a,0,rfl,Wd _,[],rfl,by simp,fun v hv=>(by cases hv),.inl rfl⟩
  ·have hl:=h5.elems.len
   rcases W8 rows.length with e|e
   ·have:=Wn.1 e
    subst this
    exact⟨_,cap,h5.val,h5.fits,[],rfl,by simp,fun v hv=>(by cases hv),.inl rfl⟩
   ·have hs:sz0=sz:=by rw[<-hl _ (WC e),hsz _ (WC e)]
    subst hs
    obtain⟨h6,h7,h8⟩:=h5.elems.denL rfl
    refine⟨_,cap,h5.val,h5.fits,_,h6,h7,h8,.inr ⟨b,0,rfl,fun j v hv=> ?_⟩⟩
    rw[iM h5.cells,WU]
    rw[Xf] at hv
    split at hv
    ·simpa using hv
    ·cases hv
theorem dr.src {st:St} {x:SVal} {rows:List (List SVal)} (h:dr st x rows) {P:Program} {c:Ctx} {w:World} (hr:dM c st.look w) {u:Value} (hx:Den c x u) {sz:Nat} (hsz:∀r∈rows,r.length=sz) {tx e':TypeId} (hk:P.underlying tx=some (.slice e')):
  ∃news,aQ c rows.flatten news/\news.length=rows.length*sz/\Src P sz tx u rows.length news w:=by
 obtain⟨a,cap,rfl,h1,news,h2,h3,h4,h5⟩:=h.spec hr hx hsz
 refine⟨news,h2,h3,?_⟩
 rcases h5 with rfl|⟨b,base,rfl,h5⟩
 ·have:news=[]:=Wn.1 (by rw[h3];simp)
  subst this
  have run:∀w':World,(Builtin.firstCells sz 0 (.slice a 0 cap)).run P w'= .ok #[] w':=fun w'=>by
   cases a with
   |none=>exact run_firstCells_none w' sz 0 0 cap
   |some a=>exact run_firstCells_some w' sz 0 a 0 cap [] (by simp) (fun j u hu=>by simp at hu)
  exact⟨.inl ⟨e',hk⟩,fun _=>rfl,run w,run w.drew,by simp,fun _ h=>by cases h⟩
 ·refine Src.ofSlice w hk _ _ _ news h3 (fun j v hv=> ?_) h4
  rw[gx]
  exact h5 j v hv
theorem newRow {st:St} {c:Ctx} {w w':World} (hr:dM c st.look w) (hf:c.ρ st.next=none) (hwf:Wf st) (g:dj w w') {rows:List (List SVal)} {sz cap b:Nat} {arr:Array Value} {e:TypeId} (hb:w'.heap[b]? =some (.cells arr e (0,0))) (hbn:w.heap.size<=b)
  (hsz:arr.size=cap*sz) (hfit:rows.length<=cap) (hel:ez c rows sz arr):
  dM (ir c st.next (.row (some b) 0 sz (.slice (some ⟨b,0,none⟩) rows.length cap))) (st.fresh (.row sz rows 0 false)).look w'/\
   Step st.next (st.fresh (.row sz rows 0 false)).next c st.look w (ir c st.next (.row (some b) 0 sz (.slice (some ⟨b,0,none⟩) rows.length cap))) (st.fresh (.row sz rows 0 false)).look w':=
 gQ hr hf hwf g (fun b' hb'=>by cases hb';exact hbn) ⟨rfl,rfl,arr,e,cap,rfl,hb,hsz,hfit,hel.le (qK _ hf),fun i v hv=>absurd hv (Gy hr hbn i v)⟩
theorem gY {c:Ctx} {k s sz:Nat} {ob:Option Nat} {u:Value} (h:c.ρ k=some (.row ob s sz u)) (hu:∃a n cap,u= .slice a n cap):Den c (.own k s) u:=⟨hu,ob,s,sz,u,h,V2 _,fun _=>rfl⟩
def chunks (sz:Nat):Nat->List SVal->List (List SVal)
 |0,_=>[]
 |n+1,l=>l.take sz::chunks sz n (l.drop sz)
theorem sL (sz:Nat):∀(n:Nat) (l:List SVal),l.length=n*sz->(chunks sz n l).length=n/\(∀r∈chunks sz n l,r.length=sz)/\(chunks sz n l).flatten=l
 |0,l,h=>by
  have:l=[]:=Wn.1 ii
  subst this
  exact⟨rfl,fun r hr=>(by cases hr),rfl⟩
 |n+1,l,h=>by
  rw[WZ,XG] at h
  obtain⟨h1,h2,h3⟩:=sL sz n (l.drop sz) (by simp;omega)
  refine⟨by simp[chunks,h1],fun r hr=> ?_,by simp[chunks,h3]⟩
  rcases V9.1 hr with rfl|hr
  ·simp;omega
  ·exact h2 r hr
def gi:List SVal->Bool
 |[]=>true
 |s::r=>vU s&&gi r
theorem ig:∀{l:List SVal},gi l=true->sF l
 |[],_=>fun s hs=>by cases hs
 |s::r,h=>by
  rw[gi,Wa] at h
  intro t ht
  rcases V9.1 ht with rfl|ht
  ·exact h.1
  ·exact ig h.2 t ht
def oC (z:List SVal):Nat->List SVal
 |0=>[]
 |n+1=>z++oC z n
theorem iL (z:List SVal):∀n,(oC z n).length=n*z.length
 |0=>by simp[oC]
 |n+1=>by rw[oC,V7,iL z n,WZ];omega
theorem dW (z:List SVal):∀n,oC z n=(List.replicate n z).flatten
 |0=>rfl
 |n+1=>by rw[oC,dW z n,XN,Xo]
theorem xW {zs:Array Value} {n i:Nat} (h:i<n):(madeCells zs n)[i]? =some (zs[i % zs.size]!):=by simp[madeCells,h]
theorem qU {c:Ctx} {z:List SVal} {zs:List Value} (hd:aQ c z zs) (n:Nat):aQ c (oC z n) (madeCells zs.toArray (n*zs.length)).toList:=by
 have hl:=hd.length
 refine aQ.o9 (by simp[madeCells,iL,hl]) fun i s hs=> ?_
 rw[dW] at hs
 have hi:i<n*z.length:=by rw[<-iL z n,dW];exact(VZ.1 hs).1
 have hz:0<z.length:=Nat.pos_of_ne_zero fun e=>by rw[e] at hi;omega
 have hlen:∀r∈List.replicate n z,r.length=z.length:=fun r hr=>by rw[(XC.1 hr).2]
 have hdm:i/z.length*z.length+i % z.length=i:=by rw[X3];exact Nat.div_add_mod i z.length
 have hj:i % z.length<z.length:=Nat.mod_lt _ hz
 have hq:i/z.length<n:=(Nat.div_lt_iff_lt_mul hz).2 hi
 have:=jG (row:=z) hlen (i:=i/z.length) (by simp[hq]) hj
 rw[hdm,hs] at this
 obtain⟨v,h1,h2⟩:=hd.get this.symm
 refine⟨v,?_,h2⟩
 rw[XX,xW (by rw[hl];exact hi)]
 simp only[Ya,hl]
 rw[show i % z.length=i % z.length from rfl]
 simp[h1,getElem!_def]
section
variable {P:Program} {E:Env} {o:Oper} {ev:jr} {st:St}
theorem oM {c:Ctx} {rows:List (List SVal)} {sz:Nat} {vs:List Value} (hlen:∀r∈rows,r.length=sz) (hd:aQ c rows.flatten vs) (hf:sF rows.flatten):ez c rows sz vs.toArray:=
 ez.of hlen fun q s hq=>by
  obtain⟨v,h1,h2⟩:=hd.get hq
  exact⟨v,by simpa using h1,kF hf hd v (V6 h1),h2⟩
theorem xB (hE:bz P E) {t elem:TypeId} {x y:Operand} {kl kc:IntKind} {li ci:Int} {l cp bytes size:Nat} {z:SVal} (ho:o.op= .makeSlice t x y) (hx:ev x=some (.int kl li)) (hy:ev y=some (.int kc ci)) (hl:li=(l:Int)) (hc:ci=(cp:Int)) (hlc:l<=cp) (hcb:cp<1000000000)
  (ht:dz E t=some elem) (hb:mT E elem=some bytes) (hsz:cQ E elem=some size) (hz:iG E elem=some z) (hb2:Nat.ble bytes 4096=true) (hzs:Nat.beq (bX z).length size=true) (hf:gi (bX z)=true):
  bG P o ev st (.own st.next 0) (st.fresh (.row size (List.replicate l (bX z)) 0 false)):=
 ⟨by simp[ho],dE _ _,fun{c w} hr hwf hf' {e} he=>by
  have hk:c.ρ st.next=none:=hf' _ (V2 _) (WW _)
  have hu:=cu hE ht
  obtain⟨ie,hie,rfl,hsr⟩:=bZ hE hsz
  obtain⟨ie',zv,hie',hzv,hdz,hzr⟩:=eH hE hz
  rw[hie] at hie'
  cases hie'
  obtain⟨ib,hib,rfl⟩:=im hE hb
  rw[hie] at hib
  cases hib
  have hs:=dX (hdz c)
  have hzl:=hs.length
  have hzs:(bX z).length=ie.size:=Xy hzs
  subst hl hc
  have hex:e x= .int kl l:=he x (by simp[ho,Op.operands]) _ hx
  have hey:e y= .int kc cp:=he y (by simp[ho,Op.operands]) _ hy
  have hzd:=qU hs cp
  have hfz:sF (oC (bX z) cp):=fun s h=>by
   rw[dW] at h
   obtain⟨r,hr,hs⟩:=List.mem_flatten.1 h
   rw[(XC.1 hr).2] at hs
   exact ig hf s hs
  have hel:ez c (List.replicate cp (bX z)) ie.size (madeCells zv.cells (cp*ie.size)):=by
   have:=oM (c:=c) (rows:=List.replicate cp (bX z)) (sz:=ie.size) (fun r hr=>by rw[(XC.1 hr).2];exact hzs) (by rw[<-dW];exact hzd) (by rw[<-dW];exact hfz)
   simpa[hzl,hzs] using this
  have hel2:ez c (List.replicate l (bX z)) ie.size (madeCells zv.cells (cp*ie.size)):=fun i row hr=>by
   have hi:i<l:=by have:=(VZ.1 hr).1;simpa using this
   refine hel i row ?_
   rw[W5] at hr⊢
   rw[HP hi] at hr
   rw[HP ii]
   exact hr
  obtain⟨g1,g2⟩:=newRow (cap:=cp) (b:=w.heap.size) hr hk hwf (dj.alloc w (.cells (madeCells zv.cells (cp*ie.size)) elem)) (fS w _) (V2 _) (by simp[madeCells]) (by simpa using hlc) hel2
  refine dQ.val (S:=Instr.makeSlice t (e x) (e y)) (by simp only[execOp,ho]) ⟨_,.slice (some ⟨w.heap.size,0,none⟩) l cp,_,?_,gY (by rw[cI,Wc]) ⟨_,_,_,rfl⟩,g1,g2⟩
  rw[hex,hey]
  have hb2:ie.bytes<=4096:=cU hb2
  have hbc:(ie.bytes:Int)*(cp:Int)<=281474976710656:=by
   have:ie.bytes*cp<=4096*1000000000:=Xb hb2 ii
   have h2:((ie.bytes*cp:Nat):Int)<=281474976710656:=by omega
   rwa [Int.natCast_mul] at h2
  have:=run_make (P:=P) w t elem ie zv hu hie hzv kl kc l cp ii ii hbc ii
  simpa using this⟩
end
section
variable {P:Program} {E:Env} {o:Oper} {ev:jr} {st st':St}
theorem cV {d:Go.Call} {b:Builtin} {ss:List SVal} {s:SVal} (ho:o.op= .call d) (hb:d.callee= .builtin b) (hev:lZ ev d.args.toList=some ss) (hsta:eS st st') {S:List Value->Sem Value}
  (hS:∀us consts,builtin b d.argTypes o.type consts us.toArray=(do pure (.value (<-S us)):Sem Next))
  (h:∀{c:Ctx} {w:World},dM c st.look w->Wf st->pH c st.next st'.next->∀{us:List Value},aQ c ss us->mY P (S us) st st' s c w):bG P o ev st s st':=
 ⟨by simp[ho],hsta,fun{c w} hr hwf hf {e} he=>by
  have mem:∀x,x∈d.args.toList->∀s,ev x=some s->Den c s (e x):=fun x hx=>he x (by
   rw[ho]
   show x∈(_++d.args).toList
   rw[XO]
   exact WB _ hx)
  refine dQ.val (S:=S (d.args.toList.map e)) ?_ (h hr hwf hf (n9 mem hev))
  simp only[execOp,ho,resolve,hb,pure_bind,Go.invoke]
  rw[<-hS]
  rw[nL]⟩
theorem two {c:Ctx} {a b:SVal} {us:List Value} (hd:aQ c [a,b] us):∃u v,Den c a u/\Den c b v/\us=[u,v]:=by
 obtain⟨u,l,h1,⟨v,l',h2,h3,rfl⟩,rfl⟩:=hd
 cases h3
 exact⟨u,v,h1,h2,rfl⟩
theorem one {c:Ctx} {a:SVal} {us:List Value} (hd:aQ c [a] us):∃u,Den c a u/\us=[u]:=by
 obtain⟨u,l,h1,h2,rfl⟩:=hd
 cases h2
 exact⟨u,h1,rfl⟩
theorem Pv {t tx ty e:TypeId} {i:TypeInfo} (ht:P.underlying t=some (.slice e)) (hi:P.info? e=some i) {b off sLen sCap n:Nat} {x:Value} {news:List Value} {w w':World} (hs:Src P i.size tx x n news w) (hroom:sLen+n<=sCap)
  (hst:(storeCells ⟨b,off+sLen*i.size,none⟩ news).run P w= .ok () w'):
  (Builtin.append_ #[t,tx] ty #[.slice (some ⟨b,off,none⟩) sLen sCap,x]).run P w= .ok (.slice (some ⟨b,off,none⟩) (sLen+n) sCap) w':=by
 rcases hs.kind with⟨e',hk⟩|hk<;>simp[Builtin.append_,run_underlying ht,run_underlying hk,Go.sizeOf,typeInfo,hi,hs.len,hroom,hs.cells,Addr.add_lit,hst]
theorem E4 {t tx ty e:TypeId} {i:TypeInfo} (ht:P.underlying t=some (.slice e)) (hi:P.info? e=some i) {a:Option Addr} {sCap:Nat} {x:Value} {w:World} (hs:Src P i.size tx x 0 [] w):
  (Builtin.append_ #[t,tx] ty #[.slice a 0 sCap,x]).run P w= .ok (.slice a 0 sCap) w:=by
 rcases hs.kind with⟨e',hk⟩|hk<;>cases a<;>simp[Builtin.append_,run_underlying ht,run_underlying hk,Go.sizeOf,typeInfo,hi,hs.len,hs.cells]<;>rfl
theorem nV {need old bytes:Nat} (h:old<need) (hn:need<=2147483648) (hb:bytes<=4096):Builtin.nextslicecap need old*bytes<=281474976710656:=by
 refine growslice_fits h ?_
 have:=Xb hn hb
 omega
theorem jF {zc:Array Value} {size need cap:Nat} {xs:List Value} (hz:zc.size=size) (hx:xs.length=need*size) (hc:need<=cap):(xs.toArray++Builtin.zeroCells zc (cap-need)).size=cap*size:=by
 rw[Yv,size_zeroCells,Ya,hx,hz,<-WZ]
 congr 1
 omega
structure Tg (P:Program) (E:Env) (d:Go.Call) (t tx e size:Nat):Prop where
 ts:d.argTypes= #[t,tx]
 el:dz E t=some e
 src:∃e',dz E tx=some e'
 sz:cQ E e=some size
 bytes:∃b,mT E e=some b/\Nat.ble b 4096=true
 zero:∃z,iG E e=some z/\Nat.beq (bX z).length size=true
theorem jI {c:Ctx} {rows new:List (List SVal)} {sz:Nat} {olds news:List Value} {tail:Array Value} (h1:aQ c rows.flatten olds) (h2:aQ c new.flatten news) (o1:∀v∈olds,v.oneCell'=true) (o2:∀v∈news,v.oneCell'=true)
  (l1:∀r∈rows,r.length=sz) (l2:∀r∈new,r.length=sz):ez c (rows++new) sz ((olds++news).toArray++tail):=
 ez.of (fun r hr=>(V8.1 hr).elim (l1 r) (l2 r)) fun q s hq=>by
  rw[List.flatten_append] at hq
  obtain⟨v,h3,h4⟩:=(aQ.append.2 ⟨_,_,h1,h2,rfl⟩:aQ c (rows.flatten++new.flatten) (olds++news)).get hq
  have hlt:=(VZ.1 h3).1
  refine⟨v,by rw[Array.getElem?_append_left (by simpa using hlt)];simpa using h3,?_,h4⟩
  rcases V8.1 (V6 h3) with h|h
  ·exact o1 v h
  ·exact o2 v h
theorem mh (hE:bz P E) {d:Go.Call} {t tx e size:Nat} {a x:SVal} {new:List (List SVal)} (ho:o.op= .call d) (hb:d.callee= .builtin .append) (hev:lZ ev d.args.toList=some [a,x]) (hT:Tg P E d t tx e size) (ha:a= .aD\/a= .aK true [])
  (hx:dr st x new) (hl:∀r∈new,r.length=size) (hn:new.length<=1000000000):bG P o ev st (.own st.next 0) (st.fresh (.row size new 0 false)):=
 cV (S:=fun us=>Builtin.append_ d.argTypes o.type us.toArray) ho hb hev (dE _ _) (fun us consts=>rfl) fun{c w} hr hwf hf us hd=>by
  obtain⟨u,v,hu,hv,rfl⟩:=two hd
  have hk:c.ρ st.next=none:=hf _ (V2 _) (WW _)
  obtain⟨e',he'⟩:=hT.src
  obtain⟨by4,hby,hb4⟩:=hT.bytes
  obtain⟨z,hz,hzl⟩:=hT.zero
  have ht:=cu hE hT.el
  obtain⟨ie,hie,rfl,_⟩:=bZ hE hT.sz
  obtain⟨ib,hib,rfl⟩:=im hE hby
  rw[hie] at hib
  cases hib
  obtain⟨iz,zv,hiz,hzv,hdz,_⟩:=eH hE hz
  rw[hie] at hiz
  cases hiz
  have hzs:zv.cells.size=ie.size:=by
   have:=(dX (hdz ⟨fun _=>none,fun _ _=>none⟩)).length
   have h5:=Xy hzl
   simp at this
   omega
  obtain⟨news,h1,h2,h3⟩:=hx.src (P:=P) hr hv hl (cu hE he')
  have hbase:∃a0,u= .slice a0 0 0:=by
   rcases ha with rfl|rfl
   ·cases hu;exact⟨none,rfl⟩
   ·rcases hu with⟨_,a0,cap,rfl,hc⟩|⟨b,base,size,cap,rfl,_,hc,_⟩
    ·rw[hc rfl];exact⟨a0,rfl⟩
    ·rw[hc rfl];exact⟨_,rfl⟩
  obtain⟨a0,rfl⟩:=hbase
  rw[hT.ts]
  rcases W8 new.length with h0|h0
  ·have:=Wn.1 h0
   subst this
   have hn0:news=[]:=Wn.1 (by rw[h2];simp)
   subst hn0
   obtain⟨g1,g2⟩:=gQ (o:= .row ie.size [] 0 false) (l:= .row none 0 ie.size (.slice a0 0 0)) hr hk hwf (dj.refl w) (fun b hb=>by cases hb) ⟨rfl,rfl,rfl,a0,rfl⟩
   exact⟨_,.slice a0 0 0,w,E4 ht hie h3,gY (cI _ _ _) ⟨_,_,_,rfl⟩,g1,g2⟩
  ·have hfirst:(Builtin.firstCells ie.size 0 (.slice a0 0 0)).run P w.drew= .ok ([]:List Value).toArray w.drew:=by
    cases a0 with
    |none=>exact run_firstCells_none w.drew ie.size 0 0 0
    |some a=>exact run_firstCells_some w.drew ie.size 0 a 0 0 [] (by simp) (fun j u hu=>by simp at hu)
   have hge:=grownCap_ge w (0+new.length) 0 e
   have hrun:=run_append_grow_src w t tx o.type e ie zv ht hie hzv a0 0 0 [] hfirst v new.length news h3 ii ii (nV ii ii (cU hb4))
   have hsz:=jF (xs:=[]++news) (need:=0+new.length) hzs (by simp[h2]) hge
   obtain⟨g1,g2⟩:=newRow (w':=w.drew.alloc (.cells (([]++news).toArray++Builtin.zeroCells zv.cells (grownCap w (0+new.length) 0 e-(0+new.length))) e)) (cap:=grownCap w (0+new.length) 0 e) (b:=w.heap.size) hr hk hwf
    ((dj.drew w _).trans (dj.alloc _ _)) (fS w.drew _) (V2 _) hsz (rows:=new) ii (by
     have:=jI (c:=c) (rows:=[]) (olds:=[]) (tail:=Builtin.zeroCells zv.cells (grownCap w (0+new.length) 0 e-(0+new.length))) rfl h1 (fun v hv=>by cases hv) h3.one (fun r hr=>by cases hr) hl
     simpa using this)
   rw[WU] at hrun g1 g2
   exact⟨_,_,_,hrun,gY (cI _ _ _) ⟨_,_,_,rfl⟩,g1,g2⟩
theorem s7 (hE:bz P E) {d:Go.Call} {t tx e size:Nat} {x:SVal} {rows new:List (List SVal)} (ho:o.op= .call d) (hb:d.callee= .builtin .append) (hev:lZ ev d.args.toList=some [.aK true rows,x]) (hT:Tg P E d t tx e size)
  (hx:dr st x new) (hl:∀r∈new,r.length=size) (hlr:∀r∈rows,r.length=size) (h0:1<=new.length) (hn:rows.length+new.length<=1000000000):bG P o ev st (.own st.next 0) (st.fresh (.row size (rows++new) 0 false)):=
 cV (S:=fun us=>Builtin.append_ d.argTypes o.type us.toArray) ho hb hev (dE _ _) (fun us consts=>rfl) fun{c w} hr hwf hf us hd=>by
  obtain⟨u,v,hu,hv,rfl⟩:=two hd
  have hk:c.ρ st.next=none:=hf _ (V2 _) (WW _)
  obtain⟨e',he'⟩:=hT.src
  obtain⟨by4,hby,hb4⟩:=hT.bytes
  obtain⟨z,hz,hzl⟩:=hT.zero
  have ht:=cu hE hT.el
  obtain⟨ie,hie,rfl,_⟩:=bZ hE hT.sz
  obtain⟨ib,hib,rfl⟩:=im hE hby
  rw[hie] at hib
  cases hib
  obtain⟨iz,zv,hiz,hzv,hdz,_⟩:=eH hE hz
  rw[hie] at hiz
  cases hiz
  have hzs:zv.cells.size=ie.size:=by
   have:=(dX (hdz ⟨fun _=>none,fun _ _=>none⟩)).length
   have h5:=Xy hzl
   simp at this
   omega
  obtain⟨news,h1,h2,h3⟩:=hx.src (P:=P) hr hv hl (cu hE he')
  obtain⟨olds,o1,o2,o3⟩:=(dr.aK (st:=st) (f:=true) (rows:=rows)).src (P:=P) hr hu hlr ht
  have hbase:∃a0,u= .slice a0 rows.length rows.length:=by
   rcases hu with⟨rfl,a0,cap,rfl,hc⟩|⟨b,base,size,cap,rfl,_,hc,_⟩
   ·rw[hc rfl];exact⟨a0,rfl⟩
   ·rw[hc rfl];exact⟨_,rfl⟩
  obtain⟨a0,rfl⟩:=hbase
  rw[hT.ts]
  have hge:=grownCap_ge w (rows.length+new.length) rows.length e
  have hrun:=run_append_grow_src w t tx o.type e ie zv ht hie hzv a0 rows.length rows.length olds o3.cellsD v new.length news h3 ii ii (nV ii ii (cU hb4))
  have hsz:=jF (xs:=olds++news) (need:=rows.length+new.length) hzs (by rw[V7,o2,h2,WZ]) hge
  obtain⟨g1,g2⟩:=newRow (w':=w.drew.alloc (.cells ((olds++news).toArray++Builtin.zeroCells zv.cells (grownCap w (rows.length+new.length) rows.length e-(rows.length+new.length))) e)) (cap:=grownCap w (rows.length+new.length) rows.length e) (b:=w.heap.size) hr hk hwf
   ((dj.drew w _).trans (dj.alloc _ _)) (fS w.drew _) (V2 _) hsz (rows:=rows++new) (by simpa using hge)
   (jI (tail:=Builtin.zeroCells zv.cells (grownCap w (rows.length+new.length) rows.length e-(rows.length+new.length))) o1 h1 o3.one h3.one hlr hl)
  rw[V7] at g1 g2
  exact⟨_,_,_,hrun,gY (cI _ _ _) ⟨_,_,_,rfl⟩,g1,g2⟩
theorem uJ (hE:bz P E) {d:Go.Call} {t tx e size k s:Nat} {x:SVal} {rows new:List (List SVal)} {z:Bool} (ho:o.op= .call d) (hb:d.callee= .builtin .append) (hev:lZ ev d.args.toList=some [.own k s,x]) (hT:Tg P E d t tx e size) (hk:st.look k=some (.row size rows s z))
  (hx:dr st x new) (hl:∀r∈new,r.length=size) (hn:rows.length+new.length<=1000000000):bG P o ev st (.own k (s+1)) (st.put k (.row size (rows++new) (s+1) z)):=
 cV (S:=fun us=>Builtin.append_ d.argTypes o.type us.toArray) ho hb hev (dA _ hk) (fun us consts=>rfl) fun{c w} hr hwf hf us hd=>by
  obtain⟨u,v,hu,hv,rfl⟩:=two hd
  obtain⟨e',he'⟩:=hT.src
  obtain⟨by4,hby,hb4⟩:=hT.bytes
  obtain⟨zz,hz,hzl⟩:=hT.zero
  have ht:=cu hE hT.el
  obtain⟨ie,hie,hsize,_⟩:=bZ hE hT.sz
  obtain⟨ib,hib,rfl⟩:=im hE hby
  rw[hie] at hib
  cases hib
  obtain⟨iz,zv,hiz,hzv,hdz,_⟩:=eH hE hz
  rw[hie] at hiz
  cases hiz
  have hzs:zv.cells.size=size:=by
   have:=(dX (hdz ⟨fun _=>none,fun _ _=>none⟩)).length
   have h5:=Xy hzl
   simp at this
   omega
  obtain⟨news,h1,h2,h3⟩:=hx.src (P:=P) hr hv hl (cu hE he')
  obtain⟨_,ob,st0,sz,u0,hρ,_,hval⟩:=hu
  obtain⟨rfl,rfl,hat⟩:=uV hr hk hρ
  cases hval rfl
  subst hsize
  rw[hT.ts]
  have place:∀(b':Option Nat) (w':World) (u':Value),(∃a n cap,u'= .slice a n cap)->(∀r,b'=some r->ob=some r\/w.heap.size<=r)->TK ob w w'->
    (∀b i v,ob=some b->c.fz b i=some v->∃arr e f,w'.heap[b]? =some (.cells arr e f)/\arr[i]? =some v)->(∀c':Ctx,Le c c'->c'.fz=c.fz->eT c' (.row ie.size (rows++new) (st0+1) z) (.row b' (st0+1) ie.size u') w')->
    (Builtin.append_ #[t,tx] o.type #[u,v]).run P w= .ok u' w'->mY P (Builtin.append_ #[t,tx] o.type #[u,v]) st (st.put k (.row ie.size (rows++new) (st0+1) z)) (.own k (st0+1)) c w:=by
   intro b' w' u' hu' hblk hbut hfz hob hrun
   have hle:Le c ⟨fun n=>if n=k then some (.row b' (st0+1) ie.size u') else c.ρ n,c.fz⟩:=⟨fun n l e=>by
    by_cases en:n=k
    ·subst en
     rw[hρ] at e
     cases e
     exact⟨_,HP rfl,.inr ⟨b',_,_,u',rfl,WW _⟩⟩
    ·exact⟨l,by show(if n=k then _ else _)=_;rw[TP en];exact e,dJ.refl l⟩,fun _ _ _ h=>h⟩
   obtain⟨r1,r2⟩:=eP (o':= .row ie.size (rows++new) (st0+1) z) (c':=⟨fun n=>if n=k then some (.row b' (st0+1) ie.size u') else c.ρ n,c.fz⟩) hr hk hρ (HP rfl) (.inr ⟨b',_,_,u',rfl,WW _⟩) (fun n hn=>TP hn) (fun _ _ _ h=>h) (fun _ _ _ h=> .inl h) hblk hbut
    hfz (hob _ hle rfl)
   exact⟨_,u',w',hrun,gY (HP rfl) hu',r1,r2⟩
  have grow:∀(a0:Option Addr) (cap:Nat) (olds:List Value),u= .slice a0 rows.length cap->cap<rows.length+new.length->aQ c rows.flatten olds->olds.length=rows.length*ie.size->(∀x∈olds,x.oneCell'=true)->(∀r∈rows,r.length=ie.size)->
    (Builtin.firstCells ie.size rows.length (.slice a0 rows.length cap)).run P w.drew= .ok olds.toArray w.drew->(∀b i v,ob=some b->c.fz b i=some v->b<w.heap.size)->mY P (Builtin.append_ #[t,tx] o.type #[u,v]) st (st.put k (.row ie.size (rows++new) (st0+1) z)) (.own k (st0+1)) c w:=by
   intro a0 cap olds hu hlt hold hol hone hrl hfirst hfzlt
   have hge:=grownCap_ge w (rows.length+new.length) cap e
   have hrun:=run_append_grow_src w t tx o.type e ie zv ht hie hzv a0 rows.length cap olds hfirst v new.length news h3 hlt ii (nV hlt ii (cU hb4))
   have hsz:=jF (xs:=olds++news) (need:=rows.length+new.length) hzs (by rw[V7,hol,h2,WZ]) hge
   have g:=(dj.drew w (w.drawn+1)).trans (dj.alloc w.drew (.cells ((olds++news).toArray++Builtin.zeroCells zv.cells (grownCap w (rows.length+new.length) cap e-(rows.length+new.length))) e))
   refine place (some w.heap.size) _ _ ⟨_,_,_,rfl⟩ (fun r hr=>by cases hr;exact .inr (V2 _)) (g.but _) (fun b i v hb hv=> ?_) (fun c' hle hfz=> ?_) (by rw[hu];exact hrun)
   ·rw[show _=_ from g.old b (hfzlt b i v hb hv)]
    exact hr.fz b i v hv
   ·exact⟨rfl,rfl,_,e,_,⟨by simp,fS w.drew _,hsz,by simpa using hge,jI (aQ.le hle _ _ hold) (aQ.le hle _ _ h1) hone h3.one hrl hl,fun i v hv=>absurd (hfz▸hv) (Gy hr (V2 _) i v)⟩⟩
  rcases hat with⟨rfl,rfl,a0,rfl⟩|⟨b,arr,ee,cap,rfl,hin⟩
  ·
   rcases W8 new.length with h0|h0
   ·have:=Wn.1 h0
    subst this
    have hn0:news=[]:=Wn.1 (by rw[h2];simp)
    subst hn0
    exact place none w _ ⟨_,_,_,rfl⟩ (fun r hr=>by cases hr) ((dj.refl w).but _) (fun b i v hb=>by cases hb) (fun c' _ _=>⟨rfl,rfl,rfl,a0,rfl⟩) (E4 ht hie h3)
   ·refine grow a0 0 [] rfl (by simpa using h0) rfl (by simp) (fun v hv=>by cases hv) (fun r hr=>by cases hr) ?_ (fun b i v hb=>by cases hb)
    cases a0 with
    |none=>exact run_firstCells_none w.drew ie.size 0 0 0
    |some a=>exact run_firstCells_some w.drew ie.size 0 a 0 0 [] (by simp) (fun j u hu=>by simp at hu)
  ·have hrl:∀r∈rows,r.length=ie.size:=hin.elems.len
   obtain⟨d1,d2,d3⟩:=hin.elems.denL rfl
   have hval:=hin.val
   subst hval
   by_cases hroom:rows.length+new.length<=cap
   ·
    have hcap:(rows.length+new.length)*ie.size<=cap*ie.size:=W7 _ hroom
    rw[WZ] at hcap
    have hsz:=hin.size
    obtain⟨s1,s2,s3⟩:=kW (off:=rows.length*ie.size) hin.cells (vs:=news) ii h3.one
    have hrun:=Pv (w':=stored w b (rows.length*ie.size) arr news) (ty:=o.type) ht hie (b:=b) (off:=0) (sLen:=rows.length) (sCap:=cap) h3 hroom (by simpa using s1 P)
    have hge:∀i v,i<rows.length*ie.size->arr[i]? =some v->(arr.toList.take (rows.length*ie.size)++(news++arr.toList.drop (rows.length*ie.size+news.length))).toArray[i]? =some v:=fun i v hi hv=>by
     rw[XE,ve _ _ _ (by simp;omega),HP hi]
     simpa using hv
    refine place (some b) _ _ ⟨_,_,_,rfl⟩ (fun r hr=> .inl hr) s2 (fun b' i v hb hv=> ?_) (fun c' hle hfz=> ?_) hrun
    ·cases hb
     obtain⟨arr2,e2,f2,h5,h6⟩:=hr.fz _ _ _ hv
     rw[hin.cells] at h5
     cases h5
     exact⟨_,_,_,s3,hge i v (hin.fz i v hv).2 h6⟩
    ·refine⟨rfl,rfl,_,ee,cap,⟨by simp,s3,by simp;omega,by simpa using hroom,?_,fun i v hv=> ?_⟩⟩
     ·refine ez.of (fun r hr=>(V8.1 hr).elim (hrl r) (hl r)) fun q s hq=> ?_
      have hd:=(aQ.append.2 ⟨_,_,aQ.le hle _ _ d1,aQ.le hle _ _ h1,rfl⟩:aQ c' (rows.flatten++new.flatten) (arr.toList.take (rows.length*ie.size)++news))
      rw[<-List.flatten_append] at hd
      obtain⟨x,hx1,hx2⟩:=hd.get hq
      refine⟨x,?_,?_,hx2⟩
      ·rw[<-WG,XE,Wi (VZ.1 hx1).1]
       exact hx1
      ·rcases V8.1 (V6 hx1) with h|h
       ·exact d3 x h
       ·exact h3.one x h
     ·obtain⟨h5,h6⟩:=hin.fz i v (hfz▸hv)
      exact⟨h5,by rw[V7,WZ];omega⟩
   ·refine grow _ cap _ rfl ii d1 d2 d3 hrl ?_ (fun b i v _ hv=>D6 hr hv)
    refine run_firstCells_some w.drew ie.size rows.length ⟨b,0,none⟩ rows.length cap _ d2 fun j v hv=> ?_
    rw[gx,WU,iM (w:=w.drew) hin.cells]
    rw[Xf] at hv
    split at hv
    ·simpa using hv
    ·cases hv
end
section
variable {P:Program} {E:Env} {o:Oper} {ev:jr} {st:St}
theorem H9 {d:Go.Call} {t:TypeId} {n:Nat} {w:World} {u:Value} {ty:TypeId} (ht:d.argTypes[0]? =some t) (h:(P.underlying t=some .string\/∃e,P.underlying t=some (.slice e))/\((∃s,u= .string s/\s.size=n)/\P.underlying t=some .string\/(∃a cap,u= .slice a n cap)/\∃e,P.underlying t=some (.slice e))):
  (Builtin.len_ d.argTypes ty #[u]).run P w= .ok (.int .i64 n) w:=by
 rcases h.2 with⟨⟨s,rfl,rfl⟩,hu⟩|⟨⟨a,cap,rfl⟩,e,hu⟩
 ·simp[Builtin.len_,ht,run_underlying hu,goInt]
 ·simp[Builtin.len_,ht,run_underlying hu,goInt]
theorem CF (hE:bz P E) {d:Go.Call} {t:TypeId} {l:List UInt8} (ho:o.op= .call d) (hb:d.callee= .builtin .len) (hev:lZ ev d.args.toList=some [.str l]) (ht:d.argTypes[0]? =some t) (hu:under E t=some .string):bG P o ev st (.int .i64 l.length) st:=
 cV (S:=fun us=>Builtin.len_ d.argTypes o.type us.toArray) ho hb hev (eS.refl _) (fun us consts=>rfl) fun{c w} hr hwf hf us hd=>by
  obtain⟨u,hu',rfl⟩:=one hd
  cases hu'
  have h:=bS hE hu
  exact mY.same hr (v:= .int .i64 l.length) (H9 ht ⟨.inl h,.inl ⟨⟨_,rfl,rfl⟩,h⟩⟩) rfl
theorem Ax (hE:bz P E) {d:Go.Call} {t e:TypeId} {x:SVal} {rows:List (List SVal)} (ho:o.op= .call d) (hb:d.callee= .builtin .len) (hev:lZ ev d.args.toList=some [x]) (ht:d.argTypes[0]? =some t) (hu:dz E t=some e) (hx:dr st x rows):bG P o ev st (.int .i64 rows.length) st:=
 cV (S:=fun us=>Builtin.len_ d.argTypes o.type us.toArray) ho hb hev (eS.refl _) (fun us consts=>rfl) fun{c w} hr hwf hf us hd=>by
  obtain⟨u,hu',rfl⟩:=one hd
  have h:=cu hE hu
  have hs:∃a cap,u= .slice a rows.length cap:=by
   cases hx with
   |nil=>cases hu';exact⟨_,_,rfl⟩
   |aK=>
    rcases hu' with⟨rfl,a,cap,rfl,_⟩|⟨b,base,size,cap,rfl,_⟩
    ·exact⟨_,_,rfl⟩
    ·exact⟨_,_,rfl⟩
   |own hk=>
    obtain⟨_,ob,st0,sz,u0,hρ,_,hval⟩:=hu'
    obtain⟨rfl,rfl,hat⟩:=uV hr hk hρ
    cases hval rfl
    rcases hat with⟨rfl,rfl,a,rfl⟩|⟨b,arr,ee,cap,rfl,hin⟩
    ·exact⟨_,_,rfl⟩
    ·exact⟨_,_,hin.val⟩
  exact mY.same hr (v:= .int .i64 rows.length) (H9 ht ⟨.inr ⟨e,h⟩,.inr ⟨hs,e,h⟩⟩) rfl
theorem CG (hE:bz P E) {d:Go.Call} {t k0 e0:TypeId} {k:Nat} {es:List (SVal×SVal)} (ho:o.op= .call d) (hb:d.callee= .builtin .len) (hev:lZ ev d.args.toList=some [.map k]) (ht:d.argTypes[0]? =some t) (hu:under E t=some (.map k0 e0)) (hk:st.look k=some (.map es)):bG P o ev st (.int .i64 es.length) st:=
 cV (S:=fun us=>Builtin.len_ d.argTypes o.type us.toArray) ho hb hev (eS.refl _) (fun us consts=>rfl) fun{c w} hr hwf hf us hd=>by
  obtain⟨u,⟨b,hb,rfl⟩,rfl⟩:=one hd
  have h:=bS hE hu
  obtain⟨l',h1,h2⟩:=hr.dO _ _ hk
  rw[hb] at h1
  cases h1
  obtain⟨ents,clock,h3,h4⟩:=h2
  have:ents.size=es.length:=by rw[<-h4.1];simp
  exact mY.same hr (v:= .int .i64 es.length) (by simp[Builtin.len_,ht,run_underlying h,MapKept.run_getObj_map h3,goInt,this]) rfl
theorem CH (hE:bz P E) {d:Go.Call} {t e:TypeId} {n:Nat} {x:SVal} (ho:o.op= .call d) (hb:d.callee= .builtin .len) (hev:lZ ev d.args.toList=some [x]) (ht:d.argTypes[0]? =some t) (hu:under E t=some (.array n e)):bG P o ev st (.int .i64 n) st:=
 cV (S:=fun us=>Builtin.len_ d.argTypes o.type us.toArray) ho hb hev (eS.refl _) (fun us consts=>rfl) fun{c w} hr hwf hf us hd=>by
  obtain⟨u,_,rfl⟩:=one hd
  have h:=bS hE hu
  exact mY.same hr (v:= .int .i64 n) (by simp[Builtin.len_,ht,run_underlying h,goInt]) rfl
theorem MC {d:Go.Call} {k:IntKind} {a b:Int} (ho:o.op= .call d) (hb:d.callee= .builtin .max) (hev:lZ ev d.args.toList=some [.int k a,.int k b]):bG P o ev st (.int k (if b>a then b else a)) st:=
 cV (S:=fun us=>Builtin.max_ d.argTypes o.type us.toArray) ho hb hev (eS.refl _) (fun us consts=>rfl) fun{c w} hr hwf hf us hd=>by
  obtain⟨u,v,hu,hv,rfl⟩:=two hd
  cases hu;cases hv
  exact mY.same hr (v:= .int k (if b>a then b else a)) (by simp[Builtin.max_,Builtin.max2]) rfl
theorem MB {d:Go.Call} {k:IntKind} {a b:Int} (ho:o.op= .call d) (hb:d.callee= .builtin .min) (hev:lZ ev d.args.toList=some [.int k a,.int k b]):bG P o ev st (.int k (if b<a then b else a)) st:=
 cV (S:=fun us=>Builtin.min_ d.argTypes o.type us.toArray) ho hb hev (eS.refl _) (fun us consts=>rfl) fun{c w} hr hwf hf us hd=>by
  obtain⟨u,v,hu,hv,rfl⟩:=two hd
  cases hu;cases hv
  exact mY.same hr (v:= .int k (if b<a then b else a)) (by simp[Builtin.min_,Builtin.min2]) rfl
noncomputable def zk (ev:jr) (x:Option Operand):Option (Option Int):=
 match x with
 |none=>some none
 |some x=>eR (ev x) fun v=>match v with
  | .int _ n=>some (some n)
  |_=>none
theorem gu {k:IntKind} {n y:Nat} (h:n<=y) (c:BoundsCode) (w:World):(Instr.sliceBound (.int k n) y c).run P w= .ok n w:=by
 have hj:(0:Int)<=(n:Int)/\(n:Int)<=(y:Int):=by omega
 simp only[Instr.sliceBound,Sem.run_bind,asIntOf,Sem.run_pure,Result.andThen_ok,hj,and_self,Yk,WR]
def iy (x:Option Int) (d:Nat) (n:Nat):Prop:=match x with
 |none=>n=d
 |some i=>i=(n:Int)
theorem ly {c:Ctx} {e:Operand->Value} {x:Option Operand} {b:Option Int} (h:zk ev x=some b) (he:∀y,x=some y->∀s,ev y=some s->Den c s (e y)):(b=none/\x.map e=none)\/∃k i,b=some i/\x.map e=some (.int k i):=by
 unfold zk at h
 cases x with
 |none=>cases h;exact .inl ⟨rfl,rfl⟩
 |some x=>
  have h:eR (ev x) (fun v=>match v with| .int _ n=>some (some n)|_=>none)=some b:=h
  rw[bm] at h
  obtain⟨v,h1,h2⟩:=h
  have hd:=he x rfl v h1
  cases v<;>simp only[WN,reduceCtorEq] at h2
  rename_i k n
  subst h2
  exact .inr ⟨k,n,rfl,by rw[Xv,show e x= .int k n from hd]⟩
theorem oi {len cap l h:Nat} {lo hi:Option Value} (hl:(lo=none/\l=0)\/∃k,lo=some (.int k l)) (hh:(hi=none/\h=len)\/∃k,hi=some (.int k h)) (h1:l<=h) (h2:h<=cap) (b:Bool) (w:World):
  (Instr.sliceBounds b len cap lo hi none).run P w= .ok (l,h,cap) w:=by
 rcases hl with⟨rfl,rfl⟩|⟨k,rfl⟩<;>rcases hh with⟨rfl,rfl⟩|⟨k2,rfl⟩
 ·simp[Instr.sliceBounds]
 ·simp[Instr.sliceBounds,gu (P:=P) h2]
 ·simp[Instr.sliceBounds,gu (P:=P) h1]
 ·simp[Instr.sliceBounds,gu (P:=P) h1,gu (P:=P) h2]
theorem Ji {len cap l h m:Nat} {lo:Option Value} {k1 k2:IntKind} (hl:(lo=none/\l=0)\/∃k,lo=some (.int k l)) (h1:l<=h) (h2:h<=m) (h3:m<=cap) (b:Bool) (w:World):
  (Instr.sliceBounds b len cap lo (some (.int k1 h)) (some (.int k2 m))).run P w= .ok (l,h,m) w:=by
 rcases hl with⟨rfl,rfl⟩|⟨k,rfl⟩
 ·simp[Instr.sliceBounds,gu (P:=P) h2,gu (P:=P) h3]
 ·simp[Instr.sliceBounds,gu (P:=P) h1,gu (P:=P) h2,gu (P:=P) h3]
theorem Lt (s:List UInt8) (l h:Nat):(⟨s.toArray⟩:ByteArray).extract l h=⟨((s.take h).drop l).toArray⟩:=by
 rw[ByteArray.extract_mk,List.drop_take]
theorem gV {x:Option Value} {b:Option Int} {d n:Nat} (h:(b=none/\x=none)\/∃k i,b=some i/\x=some (.int k i)) (hb:iy b d n):(x=none/\n=d)\/∃k,x=some (.int k n):=by
 rcases h with⟨rfl,rfl⟩|⟨k,i,rfl,rfl⟩
 ·exact .inl ⟨rfl,hb⟩
 ·exact .inr ⟨k,by rw[show i=(n:Int) from hb]⟩
theorem xv (hE:bz P E) {t:TypeId} {x:Operand} {lo hi:Option Operand} {s:List UInt8} {bl bh:Option Int} {l h:Nat} (ho:o.op= .slice t x lo hi none) (hx:ev x=some (.str s)) (ht:under E t=some .string) (hl:zk ev lo=some bl) (hh:zk ev hi=some bh)
  (hbl:iy bl 0 l) (hbh:iy bh s.length h) (h1:l<=h) (h2:h<=s.length):bG P o ev st (.str ((s.take h).drop l)) st:=
 ⟨by simp[ho],eS.refl _,fun{c w} hr _ _ {e} he=>by
  have hu:=bS hE ht
  have hs:e x= .string ⟨s.toArray⟩:=he x (by simp[ho,Op.operands]) _ hx
  have d1:=gV (ly (c:=c) (e:=e) hl (fun y hy=>he y (by subst hy;simp[ho,Op.operands]))) hbl
  have d2:=gV (ly (c:=c) (e:=e) hh (fun y hy=>he y (by subst hy;simp[ho,Op.operands]))) hbh
  refine dQ.val (S:=Instr.sliceAt t (e x) (lo.map e) (hi.map e) none) (by simp only[execOp,ho];rfl) (mY.same hr (v:= .string ⟨((s.take h).drop l).toArray⟩) ?_ rfl)
  have e2:(⟨s.toArray⟩:ByteArray).size=s.length:=rfl
  have hb:=oi (P:=P) (len:=s.length) (cap:=s.length) d1 d2 h1 h2 false w
  simp only[hs,Instr.sliceAt,Instr.slice,Sem.run_bind,run_underlying hu,Result.andThen_ok,Option.isSome_none,Xm,X6,e2,hb,Sem.run_pure,Lt]⟩
theorem iV {t e:TypeId} {a:Option Addr} {len cap l h m sz:Nat} {lo hi mx:Option Value} (hu:P.underlying t=some (.slice e)) (hs:∀w,(Go.sizeOf e).run P w= .ok sz w) {w:World} (hb:(Instr.sliceBounds true len cap lo hi mx).run P w= .ok (l,h,m) w):
  ∃a',(Instr.slice t (.slice a len cap) lo hi mx).run P w= .ok (.slice a' (h-l) (m-l)) w/\∀b o,a=some ⟨b,o,none⟩->(m=l/\a'=some ⟨b,o,none⟩)\/a'=some ⟨b,o+l*sz,none⟩:=by
 cases a with
 |none=>
  refine⟨none,?_,fun b o h=>by cases h⟩
  simp only[Instr.slice,Sem.run_bind,run_underlying hu,Result.andThen_ok,hb,hs w,Sem.run_pure,Option.map_none,ite_self]
 |some a=>
  refine⟨some (if m=l then a else a.add (l*sz)),?_,fun b o h=> ?_⟩
  ·simp only[Instr.slice,Sem.run_bind,run_underlying hu,Result.andThen_ok,hb,hs w,Sem.run_pure]
   split<;>rfl
  ·cases h
   by_cases e:m=l
   ·exact .inl ⟨e,by rw[HP e]⟩
   ·exact .inr (by rw[TP e,gx])
theorem El {c:Ctx} {b size:Nat} {rows:List (List SVal)} {i:Nat} (h:bO c b size rows i) (l n:Nat):bO c b size ((rows.take n).drop l) (i+l*size):=
 bO.of fun j row hr=>by
  rw[Xj,Xf] at hr
  split at hr
  ·obtain⟨h1,h2⟩:=h.get hr
   exact⟨h1,by rw[Xt,<-WZ];exact h2⟩
  ·cases hr
theorem Iy {c:Ctx} {b base size l h m:Nat} {rows:List (List SVal)} {f:Bool} {a':Option Addr} (h1:l<=h) (h2:h<=rows.length) (hm:h<=m) (hf:f=true->m=h) (hd:bO c b size rows base) (ha:(m=l/\a'=some ⟨b,base,none⟩)\/a'=some ⟨b,base+l*size,none⟩):
  Den c (.aK f ((rows.take h).drop l)) (.slice a' (h-l) (m-l)):=by
 have hlen:((rows.take h).drop l).length=h-l:=by simp;omega
 rcases ha with⟨rfl,rfl⟩|rfl
 ·exact .inl ⟨Wn.1 ii,_,_,by rw[show h-m=0 by omega],fun _=>by omega⟩
 ·exact .inr ⟨b,_,size,m-l,by rw[hlen],by rw[hlen];omega,fun hh=>by rw[hlen,hf hh],El hd l h⟩
theorem gI {t e:TypeId} (hu:P.underlying t=some (.slice e)) (v:Value) (lo hi mx:Option Value) (w:World):(Instr.sliceAt t v lo hi mx).run P w=(Instr.slice t v lo hi mx).run P w:=by
 simp only[Instr.sliceAt,Sem.run_bind,run_underlying hu,Result.andThen_ok]
theorem xx (hE:bz P E) {t el sz:Nat} {x:Operand} {lo hi:Option Operand} {f:Bool} {rows:List (List SVal)} {bl bh:Option Int} {l h:Nat} (ho:o.op= .slice t x lo hi none) (hx:ev x=some (.aK f rows)) (ht:dz E t=some el) (hsz:cQ E el=some sz) (hlr:∀r∈rows,r.length=sz)
  (hl:zk ev lo=some bl) (hh:zk ev hi=some bh) (hbl:iy bl 0 l) (hbh:iy bh rows.length h) (h1:l<=h) (h2:h<=rows.length):bG P o ev st (.aK false ((rows.take h).drop l)) st:=
 ⟨by simp[ho],eS.refl _,fun{c w} hr _ _ {e} he=>by
  have hu:=cu hE ht
  obtain⟨i,_,rfl,hs⟩:=bZ hE hsz
  have hd:=he x (by simp[ho,Op.operands]) _ hx
  have d1:=gV (ly (c:=c) (e:=e) hl (fun y hy=>he y (by subst hy;simp[ho,Op.operands]))) hbl
  have d2:=gV (ly (c:=c) (e:=e) hh (fun y hy=>he y (by subst hy;simp[ho,Op.operands]))) hbh
  have hex:execOp e o=(do pure (.value (<-Instr.sliceAt t (e x) (lo.map e) (hi.map e) none)):Sem Next):=by simp only[execOp,ho];rfl
  rcases hd with⟨rfl,a,cap,hxv,_⟩|⟨b,base,size,cap,hxv,hc,_,hrows⟩
  ·have hh0:h=0:=by simpa using h2
   have hl0:l=0:=by omega
   subst hh0 hl0
   obtain⟨a',hrun,_⟩:=iV (a:=a) hu hs (oi (P:=P) (len:=0) (cap:=cap) d1 d2 (V2 _) (Wd _) true w)
   rw[hxv] at hex
   exact dQ.val hex (mY.same hr (by rw[gI hu];exact hrun) (.inl ⟨by simp,a',cap,rfl,fun h=>by cases h⟩))
  ·obtain⟨a',hrun,ha⟩:=iV (a:=some ⟨b,base,none⟩) hu hs (oi (P:=P) (len:=rows.length) (cap:=cap) d1 d2 h1 ii true w)
   rw[hxv] at hex
   refine dQ.val hex (mY.same hr (by rw[gI hu];exact hrun) (Iy (base:=base) (size:=size) h1 h2 ii (fun h=>by cases h) hrows ?_))
   rcases ha b base rfl with ha|ha
   ·exact .inl ha
   ·rcases W8 rows.length with e0|e0
    ·have:l=0:=by omega
     subst this
     exact .inr (by rw[ha];simp)
    ·have:size=i.size:=by rw[<-(hrows.get (VV e0)).1,hlr _ (WC e0)]
     exact .inr (by rw[ha,this])⟩
theorem mg (hE:bz P E) {t el sz:Nat} {x hi mx:Operand} {lo:Option Operand} {f:Bool} {rows:List (List SVal)} {bl:Option Int} {k1 k2:IntKind} {nh nm:Int} {l h:Nat} (ho:o.op= .slice t x lo (some hi) (some mx)) (hx:ev x=some (.aK f rows)) (ht:dz E t=some el) (hsz:cQ E el=some sz) (hlr:∀r∈rows,r.length=sz)
  (hl:zk ev lo=some bl) (hh:ev hi=some (.int k1 nh)) (hm:ev mx=some (.int k2 nm)) (hbl:iy bl 0 l) (hnh:nh=(h:Int)) (hnm:nm=(h:Int)) (h1:l<=h) (h2:h<=rows.length):bG P o ev st (.aK true ((rows.take h).drop l)) st:=
 ⟨by simp[ho],eS.refl _,fun{c w} hr _ _ {e} he=>by
  have hu:=cu hE ht
  obtain⟨i,_,rfl,hs⟩:=bZ hE hsz
  subst hnh hnm
  have hd:=he x (by simp[ho,Op.operands]) _ hx
  have hhi:e hi= .int k1 h:=he hi (by simp[ho,Op.operands]) _ hh
  have hmx:e mx= .int k2 h:=he mx (by simp[ho,Op.operands]) _ hm
  have d1:=gV (ly (c:=c) (e:=e) hl (fun y hy=>he y (by subst hy;simp[ho,Op.operands]))) hbl
  have hex:execOp e o=(do pure (.value (<-Instr.sliceAt t (e x) (lo.map e) (some (e hi)) (some (e mx)))):Sem Next):=by simp only[execOp,ho];rfl
  rw[hhi,hmx] at hex
  rcases hd with⟨rfl,a,cap,hxv,_⟩|⟨b,base,size,cap,hxv,hc,_,hrows⟩
  ·have hh0:h=0:=by simpa using h2
   have hl0:l=0:=by omega
   subst hh0 hl0
   obtain⟨a',hrun,_⟩:=iV (a:=a) hu hs (Ji (P:=P) (len:=0) (cap:=cap) d1 (V2 _) (V2 _) (Wd _) true w)
   rw[hxv] at hex
   exact dQ.val hex (mY.same hr (by rw[gI hu];exact hrun) (.inl ⟨by simp,a',0,rfl,fun h=>rfl⟩))
  ·obtain⟨a',hrun,ha⟩:=iV (a:=some ⟨b,base,none⟩) hu hs (Ji (P:=P) (len:=rows.length) (cap:=cap) d1 h1 (V2 _) ii true w)
   rw[hxv] at hex
   refine dQ.val hex (mY.same hr (by rw[gI hu];exact hrun) (Iy (base:=base) (size:=size) h1 h2 (V2 _) (fun _=>rfl) hrows ?_))
   rcases ha b base rfl with ha|ha
   ·exact .inl ha
   ·rcases W8 rows.length with e0|e0
    ·have:l=0:=by omega
     subst this
     exact .inr (by rw[ha];simp)
    ·have:size=i.size:=by rw[<-(hrows.get (VV e0)).1,hlr _ (WC e0)]
     exact .inr (by rw[ha,this])⟩
theorem xy (hE:bz P E) {t el:Nat} {x hi:Operand} {k s sz h:Nat} {ki:IntKind} {n:Int} {rows:List (List SVal)} (ho:o.op= .slice t x none (some hi) none) (hx:ev x=some (.own k s)) (ht:dz E t=some el) (hsz:cQ E el=some sz) (hk:st.look k=some (.row sz rows s false)) (hh:ev hi=some (.int ki n))
  (hn:n=(h:Int)) (h2:h<=rows.length):bG P o ev st (.own k (s+1)) (st.put k (.row sz (rows.take h) (s+1) false)):=
 ⟨by simp[ho],dA _ hk,fun{c w} hr _ _ {e} he=>by
  have hu:=cu hE ht
  obtain⟨i,_,rfl,hs⟩:=bZ hE hsz
  subst hn
  obtain⟨_,ob,st0,sz,u0,hρ,_,hval⟩:=he x (by simp[ho,Op.operands]) _ hx
  have hhi:e hi= .int ki h:=he hi (by simp[ho,Op.operands]) _ hh
  obtain⟨rfl,rfl,hat⟩:=uV hr hk hρ
  have hval:=hval rfl
  have hex:execOp e o=(do pure (.value (<-Instr.sliceAt t (e x) none (some (e hi)) none)):Sem Next):=by simp only[execOp,ho];rfl
  rw[hval,hhi] at hex
  have place:∀(b':Option Nat) (u':Value),(∃a n cap,u'= .slice a n cap)->(∀r,b'=some r->ob=some r)->(∀b i v,ob=some b->c.fz b i≠some v)->(∀c':Ctx,Le c c'->c'.fz=c.fz->eT c' (.row i.size (rows.take h) (st0+1) false) (.row b' (st0+1) i.size u') w)->
    (Instr.slice t u0 none (some (.int ki h)) none).run P w= .ok u' w->mY P (Instr.sliceAt t u0 none (some (.int ki h)) none) st (st.put k (.row i.size (rows.take h) (st0+1) false)) (.own k (st0+1)) c w:=by
   intro b' u' hu' hblk hfz hob hrun
   have hle:Le c ⟨fun n=>if n=k then some (.row b' (st0+1) i.size u') else c.ρ n,c.fz⟩:=⟨fun n l e=>by
    by_cases en:n=k
    ·subst en
     rw[hρ] at e
     cases e
     exact⟨_,HP rfl,.inr ⟨b',_,_,u',rfl,WW _⟩⟩
    ·exact⟨l,by show(if n=k then _ else _)=_;rw[TP en];exact e,dJ.refl l⟩,fun _ _ _ h=>h⟩
   obtain⟨r1,r2⟩:=eP (o':= .row i.size (rows.take h) (st0+1) false) (c':=⟨fun n=>if n=k then some (.row b' (st0+1) i.size u') else c.ρ n,c.fz⟩) hr hk hρ (HP rfl) (.inr ⟨b',_,_,u',rfl,WW _⟩) (fun n hn=>TP hn) (fun _ _ _ h=>h) (fun _ _ _ h=> .inl h) (fun r hr=> .inl (hblk r hr)) ((dj.refl w).but _)
    (fun b i v hb hv=>absurd hv (hfz b i v hb)) (hob _ hle rfl)
   exact⟨_,u',w,by rw[gI hu];exact hrun,gY (HP rfl) hu',r1,r2⟩
  refine dQ.val hex ?_
  rcases hat with⟨rfl,rfl,a0,rfl⟩|⟨b,arr,ee,cap,rfl,hin⟩
  ·have hh0:h=0:=by simpa using h2
   subst hh0
   obtain⟨a',hrun,_⟩:=iV (a:=a0) hu hs (oi (P:=P) (lo:=none) (len:=0) (cap:=0) (.inl ⟨rfl,rfl⟩) (.inr ⟨ki,rfl⟩) (V2 _) (V2 _) true w)
   exact place none _ ⟨_,_,_,rfl⟩ (fun r hr=>by cases hr) (fun b i v hb=>by cases hb) (fun c' _ _=>⟨rfl,rfl,by simp,a',rfl⟩) hrun
  ·have hv:=hin.val
   subst hv
   have hcap:=hin.fits
   obtain⟨a',hrun,ha⟩:=iV (a:=some ⟨b,0,none⟩) hu hs (oi (P:=P) (lo:=none) (len:=rows.length) (cap:=cap) (h:=h) (.inl ⟨rfl,rfl⟩) (.inr ⟨ki,rfl⟩) (Wd _) ii true w)
   have ha':a'=some ⟨b,0,none⟩:=by
    rcases ha b 0 rfl with⟨_,h⟩|h
    ·exact h
    ·rw[h];simp
   subst ha'
   refine place (some b) _ ⟨_,_,_,rfl⟩ (fun r hr=>hr) (fun b' j v hb hv=>by cases hb;have:=(hin.fz j v hv).1;cases this) (fun c' hle hfz=>⟨rfl,rfl,arr,ee,cap,⟨?_,hin.cells,hin.size,?_,fun j row hr=> ?_,fun j v hv=> ?_⟩⟩) hrun
   ·rw[XY,Nat.min_eq_left h2];rfl
   ·rw[XY];omega
   ·rw[Xf] at hr
    split at hr
    ·exact hin.elems.le hle j row hr
    ·cases hr
   ·rw[hfz] at hv
    have:=(hin.fz j v hv).1
    cases this⟩
theorem xw (hE:bz P E) {t el sz:Nat} {x:Operand} {lo hi:Option Operand} {bl bh:Option Int} (ho:o.op= .slice t x lo hi none) (hx:ev x=some .aD) (ht:dz E t=some el) (hsz:cQ E el=some sz) (hl:zk ev lo=some bl) (hh:zk ev hi=some bh) (hbl:iy bl 0 0) (hbh:iy bh 0 0):bG P o ev st .aD st:=
 ⟨by simp[ho],eS.refl _,fun{c w} hr _ _ {e} he=>by
  have hu:=cu hE ht
  obtain⟨i,_,rfl,hs⟩:=bZ hE hsz
  have hd:e x= .slice none 0 0:=he x (by simp[ho,Op.operands]) _ hx
  have d1:=gV (ly (c:=c) (e:=e) hl (fun y hy=>he y (by subst hy;simp[ho,Op.operands]))) hbl
  have d2:=gV (ly (c:=c) (e:=e) hh (fun y hy=>he y (by subst hy;simp[ho,Op.operands]))) hbh
  have hex:execOp e o=(do pure (.value (<-Instr.sliceAt t (e x) (lo.map e) (hi.map e) none)):Sem Next):=by simp only[execOp,ho];rfl
  refine dQ.val hex (mY.same hr (v:= .slice none 0 0) ?_ rfl)
  have hb:=oi (P:=P) (len:=0) (cap:=0) d1 d2 (V2 _) (V2 _) true w
  rw[gI hu]
  simp only[hd,Instr.slice,Sem.run_bind,run_underlying hu,Result.andThen_ok,hb,hs w,Sem.run_pure,Option.map_none,ite_self,X2]⟩
end
def fT:TypeDesc->SVal->Prop
 | .int k,.int k' _=>k'=k
 | .string,.str _=>True
 |_,_=>False
inductive iv:List (SVal×SVal)->SVal->Option (Nat×SVal)->Prop where
 |nil {k:SVal}:iv [] k none
 |here {k v:SVal} {r:List (SVal×SVal)}:iv ((k,v)::r) k (some (0,v))
 |there {k:SVal} {p:SVal×SVal} {r:List (SVal×SVal)} {x:Option (Nat×SVal)}:p.1≠k->iv r k x->iv (p::r) k (x.map fun q=>(q.1+1,q.2))
theorem DG {d:TypeDesc} {k:SVal} (h:fT d k) {c:Ctx} {u:Value} (hk:Den c k u):MapKept.IsKey d u:=by
 cases d<;>cases k<;>simp only[fT] at h
 ·subst h;cases hk;simp[MapKept.IsKey]
 ·cases hk;simp[MapKept.IsKey]
theorem zR (a b:List UInt8):((⟨a.toArray⟩:ByteArray)==⟨b.toArray⟩)=(a==b):=by
 rw[Ye,MapKept.bytes_beq]
 simp
theorem uR {d:TypeDesc} {k x:SVal} (hk:fT d k) (hx:fT d x) {c:Ctx} {u v:Value} (hu:Den c k u) (hv:Den c x v):(x=k->Instr.sameNow d u v=some true/\u=v)/\(x≠k->Instr.sameNow d u v=some false):=by
 cases d<;>cases k<;>simp only[fT] at hk<;>cases x<;>simp only[fT] at hx
 ·subst hk;subst hx;cases hu;cases hv
  rename_i a k b
  refine⟨fun h=> ?_,fun h=> ?_⟩
  ·cases h;exact⟨by simp[Instr.sameNow],rfl⟩
  ·have:¬(a=b):=fun e=>h (by rw[e])
   simp[Instr.sameNow,this]
 ·cases hu;cases hv
  rename_i a b
  refine⟨fun h=> ?_,fun h=> ?_⟩
  ·cases h;exact⟨by simp[Instr.sameNow,zR],rfl⟩
  ·have:¬(a=b):=fun e=>h (by rw[e])
   simp[Instr.sameNow,zR,this]
def Found (c:Ctx) (l:List MapEntry) (u:Value) (i:Nat):Option (Nat×SVal)->Option (Nat×Value)->Prop
 |none,none=>True
 |some p,some q=>∃e,q=(i+p.1,e.val)/\l[p.1]? =some e/\e.key=u/\Den c p.2 e.val
 |_,_=>False
theorem nc.tail {c:Ctx} {p:SVal×SVal} {es:List (SVal×SVal)} {e:MapEntry} {l:List MapEntry} (h:nc c (p::es) (e::l)):nc c es l:=⟨by simpa using h.1,fun j q hq=>by simpa using h.2 (j+1) q (by simpa using hq)⟩
theorem iv.ok {d:TypeDesc} {k:SVal} {c:Ctx} {u:Value} (hk:fT d k) (hu:Den c k u) {es:List (SVal×SVal)} {r:Option (Nat×SVal)} (h:iv es k r):(∀p∈es,fT d p.1)->∀{l:List MapEntry} (i:Nat),nc c es l->
  ∃r',Instr.findNow d u l i=some r'/\Found c l u i r r':=by
 induction h with
 |nil=>
  intro _ l i he
  have:l=[]:=Wn.1 he.1
  subst this
  exact⟨none,rfl,trivial⟩
 |here=>
  rename_i k v r
  intro hks l i he
  obtain⟨e,h3,h4,h5⟩:=he.2 0 _ rfl
  cases l with
  |nil=>simp at h3
  |cons e0 l=>
   simp only[XR,WN] at h3
   subst h3
   obtain⟨h6,h7⟩:=(uR hk hk hu h4).1 rfl
   exact⟨some (i,e0.val),by simp[Instr.findNow,h6],e0,rfl,rfl,h7.symm,h5⟩
 |there hne _ ih=>
  rename_i k p r x _
  intro hks l i he
  obtain⟨e,h3,h4,h5⟩:=he.2 0 _ rfl
  cases l with
  |nil=>simp at h3
  |cons e0 l=>
   simp only[XR,WN] at h3
   subst h3
   have h6:=(uR hk (hks p (.head _)) hu h4).2 hne
   obtain⟨r',h8,h9⟩:=ih hk hu (fun q hq=>hks q (.tail _ hq)) (i+1) he.tail
   refine⟨r',by simp[Instr.findNow,h6,h8],?_⟩
   cases x with
   |none=>cases r' with
    |none=>trivial
    |some q=>exact h9.elim
   |some q0=>cases r' with
    |none=>exact h9.elim
    |some q=>
     obtain⟨e,h11,h12,h14,h15⟩:=h9
     exact⟨e,by rw[h11];simp only[Prod.mk.injEq,and_true];omega,by simpa using h12,h14,h15⟩
theorem NL {st:St} {c:Ctx} {w:World} (hr:dM c st.look w) {k b:Nat} {es:List (SVal×SVal)} (h:st.look k=some (.map es)) (hb:c.ρ k=some (.box b)):∃ents clock,w.heap[b]? =some (.map ents clock)/\nc c es ents.toList:=by
 obtain⟨l',h1,h2⟩:=hr.dO k _ h
 rw[hb] at h1
 cases h1
 exact h2
section
variable {P:Program} {E:Env} {o:Oper} {ev:jr} {st:St}
def Iz (ok:Bool) (v:SVal) (b:Bool):SVal:=match ok with
 |true=> .dZ [v,.bool b]
 |false=>v
theorem uG (hE:bz P E) {t:TypeId} {x ix:Operand} {ok:Bool} {ke:TypeId×TypeId} {k:Nat} {key:SVal} {es:List (SVal×SVal)} {d:TypeDesc} {r:Option (Nat×SVal)} {s:SVal} (ho:o.op= .lookup t x ix ok) (ht:eR (under E t) KH=some ke) (hd:under E ke.1=some d) (hx:ev x=some (.map k)) (hix:ev ix=some key)
  (hlk:st.look k=some (.map es)) (hk:fT d key) (hks:∀p∈es,fT d p.1) (hf:iv es key r) (hs:(r=none/\∃z,iG E ke.2=some z/\s=Iz ok z false)\/∃i v,r=some (i,v)/\s=Iz ok v true):bG P o ev st s st:=
 ⟨by simp[ho],eS.refl _,fun{c w} hr _ _ {e} he=>by
  have hu:=yQ hE ht
  have hdk:=bS hE hd
  obtain⟨b,hb,hxv⟩:=he x (by simp[ho,Op.operands]) _ hx
  have hku:=he ix (by simp[ho,Op.operands]) _ hix
  have hkey:=DG hk hku
  obtain⟨ents,clock,h3,h4⟩:=NL hr hlk hb
  obtain⟨r',h5,h6⟩:=hf.ok hk hku hks 0 h4
  have tail:∃v,Den c s v/\∀em,(do
    Instr.checkKey em 10000 ke.1 (e ix)
    let(v,ok')<-match<-Instr.findKey ke.1 (e ix) ents.toList with
     |some (_,v)=>(pure (v,true):Sem (Value×Bool))
     |none=>do pure (<-zeroValue ke.2,false)
    pure (if ok then .tuple #[v,.bool ok'] else v):Sem Value).run P w= .ok v w:=by
   rcases hs with⟨rfl,z,hz,rfl⟩|⟨i,v,rfl,rfl⟩
   ·obtain⟨_,zv,_,_,hzd,hzr⟩:=eH hE hz
    cases r' with
    |some q=>exact h6.elim
    |none=>
     refine⟨if ok then .tuple #[zv,.bool false] else zv,by cases ok;exact hzd c;exact⟨_,⟨_,_,hzd c,⟨_,_,rfl,rfl,rfl⟩,rfl⟩,rfl⟩,fun em=> ?_⟩
     simp only[Sem.run_bind,MapKept.run_checkKey hdk hkey,MapKept.run_findKey hdk h5,Result.andThen_ok,hzr w,Sem.run_pure]
   ·cases r' with
    |none=>exact h6.elim
    |some q=>
     obtain⟨en,rfl,h12,h14,h15⟩:=h6
     refine⟨if ok then .tuple #[en.val,.bool true] else en.val,by cases ok;exact h15;exact⟨_,⟨_,_,h15,⟨_,_,rfl,rfl,rfl⟩,rfl⟩,rfl⟩,fun em=> ?_⟩
     simp only[Sem.run_bind,MapKept.run_checkKey hdk hkey,MapKept.run_findKey hdk h5,Result.andThen_ok,Sem.run_pure]
  obtain⟨v,h1,h2⟩:=tail
  refine dQ.val (S:=Instr.lookup t (e x) (e ix) ok) (by simp only[execOp,ho]) (mY.same hr (v:=v) (Eq.trans ?_ (h2 ents.isEmpty)) h1)
  simp only[hxv,Instr.lookup,Sem.run_bind,run_underlying hu,Result.andThen_ok,MapKept.run_getObj_map h3,Sem.run_pure]
  rfl⟩
theorem F6 (w:World) (r:Nat) (ob:Obj):TK (some r) w {w with heap:=w.heap.setIfInBounds r ob}:=
 ⟨rfl,rfl,rfl,by simp,fun k _ hk=>by
  have:r≠k:=fun e=>hk (by rw[e])
  simp[this]⟩
theorem nc.append {c:Ctx} {es:List (SVal×SVal)} {l:List MapEntry} (h:nc c es l) {k v:SVal} {e:MapEntry} (hk:Den c k e.key) (hv:Den c v e.val):nc c (es++[(k,v)]) (l++[e]):=by
 refine⟨by simp[h.1],fun i p hp=> ?_⟩
 by_cases hi:i<es.length
 ·rw[Wi hi] at hp
  rw[Wi (by rw[h.1];exact hi)]
  exact h.2 i p hp
 ·rw[Wh ii] at hp
  rw[Wh (by rw[h.1];omega),h.1]
  cases hj:i-es.length with
  |zero=>rw[hj] at hp;simp at hp;subst hp;exact⟨e,rfl,hk,hv⟩
  |succ j=>rw[hj] at hp;simp at hp
theorem xA (hE:bz P E) {t:TypeId} {m k x:Operand} {ke:TypeId×TypeId} {r:Nat} {key v:SVal} {es:List (SVal×SVal)} {d:TypeDesc} (ho:o.op= .mapUpdate t m k x\/o.op= .insert t m k x) (ht:eR (under E t) KH=some ke) (hd:under E ke.1=some d) (hm:ev m=some (.map r)) (hk:ev k=some key)
  (hx:ev x=some v) (hlk:st.look r=some (.map es)) (hkd:fT d key) (hks:∀p∈es,fT d p.1) (hf:iv es key none):bG P o ev st (.dZ []) (st.put r (.map (es++[(key,v)]))):=
 ⟨by rcases ho with ho|ho<;>simp[ho],dA _ hlk,fun{c w} hr _ _ {e} he=>by
  have hu:=yQ hE ht
  have hdk':=bS hE hd
  have mem:∀y∈[m,k,x],y∈o.op.operands.toList:=fun y hy=>by rcases ho with ho|ho<;>simpa[ho,Op.operands] using hy
  obtain⟨b,hb,hmv⟩:=he m (mem _ (by simp)) _ hm
  have hku:=he k (mem _ (by simp)) _ hk
  have hxv:=he x (mem _ (by simp)) _ hx
  have hkey:=DG hkd hku
  obtain⟨ents,clock,h1,h2⟩:=NL hr hlk hb
  obtain⟨q',h4,h5⟩:=hf.ok hkd hku hks 0 h2
  have hlt:b<w.heap.size:=(Wl.1 h1).1
  cases q' with
  |some p=>exact h5.elim
  |none=>
   have hne:∀i v,c.fz b i≠some v:=fun i v hv=>by
    obtain⟨arr,ee,f,h6,_⟩:=hr.fz _ _ _ hv
    rw[h1] at h6
    cases h6
   obtain⟨h6,h7⟩:=eP (o':= .map (es++[(key,v)])) (w':={w with heap:=w.heap.setIfInBounds b (.map (ents.push {key:=e k,val:=e x,born:=clock}) (clock+1))}) hr hlk hb hb (dJ.refl _) (fun _ _=>rfl) (fun _ _ _ h=>h) (fun _ _ _ h=> .inl h) (fun r hr=> .inl hr) (F6 w b _)
    (fun b' i v hb hv=>by cases hb;exact absurd hv (hne i v)) ⟨ents.push {key:=e k,val:=e x,born:=clock},clock+1,by simp[hlt],by simpa using h2.append (e:={key:=e k,val:=e x,born:=clock}) hku hxv⟩
   refine dQ.skip (S:=Instr.mapUpdate t (e m) (e k) (e x)) (by rcases ho with ho|ho<;>simp only[execOp,ho]) ?_ h6 h7
   simp only[hmv,Instr.mapUpdate,Sem.run_bind,run_underlying hu,Result.andThen_ok,MapKept.run_getObj_map h1,MapKept.run_checkKey hdk' hkey,MapKept.run_findKey hdk' h4,MapKept.run_setObj_map _ h1]⟩
def iq (l:List UInt8):List (List SVal):=l.map fun b=>[SVal.int .u8 b.toNat]
theorem kP:∀l:List UInt8,(iq l).flatten=l.map fun b=>SVal.int .u8 b.toNat
 |[]=>rfl
 |b::l=>by rw[iq,WM,Xo,<-iq,kP l];rfl
theorem qJ {c:Ctx}:∀{l:List UInt8} {vs:List Value},aQ c (l.map fun b=>SVal.int .u8 b.toNat) vs->vs=l.map fun b=>Value.int .u8 b.toNat
 |[],vs,h=>h
 |b::l,vs,⟨v,r,h1,h2,h3⟩=>by cases h1;rw[h3,qJ h2];rfl
theorem sD (w:World) {g:Value->ByteArray->Sem (ForInStep ByteArray)} (hg:∀n s,(g (.int .u8 n) s).run P w= .ok (.yield (s.push (UInt8.ofNat n.toNat))) w):∀(is:List Int) (s:ByteArray),
  (forIn (is.map fun n=>Value.int .u8 n) s g:Sem ByteArray).run P w= .ok (is.foldl (fun s n=>s.push (UInt8.ofNat n.toNat)) s) w
 |[],s=>rfl
 |n::is,s=>by
  simp only[WM,List.forIn_cons,Sem.run_bind,hg,Result.andThen_ok,WX]
  exact sD w hg is _
theorem foldl_push:∀(is:List Int) (s:ByteArray),(is.foldl (fun s n=>s.push (UInt8.ofNat n.toNat)) s)=⟨s.data++(is.map fun n=>UInt8.ofNat n.toNat).toArray⟩
 |[],s=>by simp
 |n::is,s=>by
  rw[WX,foldl_push is]
  refine W4 ByteArray.mk ?_
  show s.data.push _++_=_
  simp
theorem uI (hE:bz P E) {a b e8:TypeId} {x:Operand} {s:SVal} {l:List UInt8} (ho:o.op= .convert a b x) (hx:ev x=some s) (ha:under E a=some (.slice e8)) (hb:under E b=some .string) (h8:under E e8=some (.int .u8)) (hs:dr st s (iq l)):bG P o ev st (.str l) st:=
 ⟨by simp[ho],eS.refl _,fun{c w} hr _ _ {e} he=>by
  obtain⟨ad,cap,hu,hcap,news,h1,h2,h3,h4⟩:=hs.spec hr (he x (by simp[ho,Op.operands]) _ hx) (sz:=1) (fun r hr=>by
   obtain⟨b,_,rfl⟩:=WQ.1 hr
   rfl)
  rw[kP] at h1
  have hn:=qJ h1
  have hlen:(iq l).length=l.length:=by simp[iq]
  refine dQ.val (S:=convert a b (e x)) (by simp only[execOp,ho]) (mY.same hr (v:= .string ⟨l.toArray⟩) ?_ rfl)
  have ua:=bS hE ha
  have ub:=bS hE hb
  have u8:=bS hE h8
  rw[hu,hlen]
  rcases h4 with h4|⟨bb,base,rfl,h4⟩
  ·have hl:l=[]:=by
    have:(iq l).length=0:=by rw[h4];rfl
    exact Wn.1 ii
   subst hl
   cases ad with
   |none=>simp[convert,run_underlying ua,run_underlying ub,run_underlying u8,Conv.bytesToString];rfl
   |some ad=>simp[convert,run_underlying ua,run_underlying ub,run_underlying u8,Conv.bytesToString,loadCells];rfl
  ·have hrun:=run_loadCells_list (P:=P) w ⟨bb,base,none⟩ news fun j v hv=>by rw[gx];exact h4 j v hv
   rw[h2,hlen,XH] at hrun
   have hn2:news=(l.map fun b=>(b.toNat:Int)).map fun n=>Value.int .u8 n:=by rw[hn,List.map_map];rfl
   simp only[convert,Sem.run_bind,run_underlying ua,run_underlying ub,run_underlying u8,Result.andThen_ok,Conv.bytesToString,hrun]
   rw[<-Array.forIn_toList]
   simp only[hn2]
   rw[sD (P:=P) w (fun n s=>by rfl) _ ByteArray.empty,foldl_push]
   simp only[Result.andThen_ok,Sem.run_pure]
   congr 3
   have e3:((fun n:Int=>UInt8.ofNat n.toNat)∘fun b:UInt8=>(b.toNat:Int))=id:=funext fun b=>by simp
   simp[e3]⟩
end
noncomputable def Fr.set (fr:Fr) (d:Nat) (v:SVal):Option Fr:=Af (Nat.ble (Nat.succ d) fr.n) (some ⟨fr.n,(d,v)::fr.t⟩)
theorem fu {fr fr':Fr} {d:Nat} {v:SVal} (h:fr.set d v=some fr'):d<fr.n/\fr'.n=fr.n/\∀t,fr'.get t=if t=d then some v else fr.get t:=by
 unfold Fr.set at h
 rw[eV] at h
 obtain⟨h1,h3⟩:=h
 cases h3
 refine⟨cU h1,rfl,fun t=> ?_⟩
 show bB ((d,v)::fr.t) t=_
 rw[b9]
 by_cases e:t=d
 ·rw[HP e,HP e.symm]
 ·rw[TP e,TP (XF e)];rfl
structure lI (D:List Deferred) (c:Ctx) (fr:Fr) (a:Act):Prop where
 size:a.tmps.size=fr.n
 get:∀t s,fr.get t=some s->∃v,a.tmps[t]? =some v/\Den c s v
 defers:a.defers=D
theorem lI.le {D:List Deferred} {c c':Ctx} {fr:Fr} {a:Act} (h:lI D c fr a) (hle:Le c c'):lI D c' fr a:=
 ⟨h.size,fun t s ht=>let⟨v,h1,h2⟩:=h.get t s ht;⟨v,h1,Den.le hle _ _ h2⟩,h.defers⟩
noncomputable def ra (fr:Fr) (d:Option Nat) (v:SVal):Option Fr:=
 Option.rec (motive:=fun _=>Option Fr) (some fr) (fun d=>fr.set d v) d
theorem iW {fr fr':Fr} {v:SVal} (h:ra fr none v=some fr'):fr'=fr:=by cases h;rfl
theorem gJ {fr fr':Fr} {d:Nat} {v:SVal} (h:ra fr (some d) v=some fr'):fr.set d v=some fr':=h
theorem lI.put {D:List Deferred} {c:Ctx} {fr fr':Fr} {a:Act} {d:Option Nat} {s:SVal} {v:Value} (h:lI D c fr a) (hp:ra fr d s=some fr') (hd:Den c s v):lI D c fr' (a.put d v):=by
 cases d with
 |none=>cases iW hp;exact h
 |some d=>
  obtain⟨h1,h2,h3⟩:=fu (gJ hp)
  refine⟨by simp[Act.put,h.size,h2],fun t s' ht=> ?_,h.defers⟩
  rw[h3] at ht
  by_cases e:t=d
  ·subst e
   rw[HP rfl] at ht
   cases ht
   exact⟨v,by simp[Act.put,h.size,h1],hd⟩
  ·rw[TP e] at ht
   obtain⟨v',h4,h5⟩:=h.get t s' ht
   exact⟨v',by simp[Act.put,Xw (XF e),h4],h5⟩
noncomputable def Fw (fr:Fr) (x:Operand):Option SVal:=
 Operand.rec (motive:=fun _=>Option SVal) (fun t=>fr.get t) (fun v=>Fs 4 v) (fun _=>none) (fun f=>some (.func (.func f) [] [])) x
theorem lI.eval {D:List Deferred} {c:Ctx} {fr:Fr} {a:Act} (h:lI D c fr a) (x:Operand) (s:SVal) (hs:Fw fr x=some s):Den c s (a.eval x):=by
 cases x with
 |tmp t=>
  obtain⟨v,h1,h2⟩:=h.get t s hs
  rw[show a.eval (.tmp t)=v by simp[Act.eval,W0,h1]]
  exact h2
 |const v=>exact AL hs c
 |global g=>cases hs
 |func f=>cases hs;exact⟨[],[],rfl,rfl,rfl⟩
noncomputable def gZ (b:Bool):SVal->Option Bool
 | .bool c=>some (c==b)
 | .dZ []=>some false
 |_=>none
noncomputable def l6 (ops:List Oper) (fr:Fr) (g:Option (Nat×Bool)):Option Bool:=
 Option.rec (motive:=fun _=>Option Bool) (some true) (fun p=>eR (ops[p.1]?) fun q=>eR q.dst fun d=>eR (fr.get d) fun v=>gZ p.2 v) g
def saysB:Value->Option Bool
 | .bool c=>some c
 |_=>none
theorem qp {b r:Bool} {s:SVal} (h:gZ b s=some r) {c:Ctx} {v:Value} (hd:Den c s v):(saysB v==some b)=r:=by
 unfold gZ at h
 split at h
 ·cases h;cases hd;rename_i c;cases c<;>cases b<;>rfl
 ·cases h;obtain⟨vs,h1,rfl⟩:=hd;cases h1;cases b<;>rfl
 ·cases h
theorem B3 {all:List Oper} {ops:Array Oper} (hall:all=ops.toList) {fr:Fr} {o:Oper} {b:Bool} (h:l6 all fr o.guard=some b) {c:Ctx} {tmps:Array Value} (hf:∀t s,fr.get t=some s->∃v,tmps[t]? =some v/\Den c s v):Region.wanted o (yielded ops tmps)=b:=by
 unfold Region.wanted
 cases hg:o.guard with
 |none=>rw[hg] at h;cases h;rfl
 |some p=>
  obtain⟨j,want⟩:=p
  rw[hg] at h
  have h:eR (all[j]?) (fun q=>eR q.dst fun d=>eR (fr.get d) fun v=>gZ want v)=some b:=h
  rw[bm] at h
  obtain⟨q,h1,h⟩:=h
  rw[bm] at h
  obtain⟨d,h2,h⟩:=h
  rw[bm] at h
  obtain⟨s,h3,h4⟩:=h
  obtain⟨v,h5,h6⟩:=hf d s h3
  have h1:ops[j]? =some q:=by rw[hall] at h1;simpa using h1
  have:=qp h4 h6
  simp only[yielded,h1,VU,h2,h5]
  cases v<;>exact this
def jd (ro:Option Nat):Fence:={Fence.wide with round:=ro}
theorem bG.wp {P:Program} {o:Oper} {ev:jr} {st st':St} {s:SVal} (h:bG P o ev st s st') (ro:Option Nat) {a:Act} {w:World} {next:Act->World->Prop} {Q:Exit->Act->World->Prop}
  (k:o.uponIn Fence.wide 0 P a next Q ((execOp a.eval o).run P w)):o.wpIn (jd ro) 0 P a w next Q:=by
 refine⟨fun _ _=>trivial,?_⟩
 have e:=Oper.semAt_eq ro a.eval o h.nd
 show o.uponIn (jd ro) 0 P a next Q ((Oper.semAt ro a.eval o).run P w)
 rw[e]
 exact k
def BU (P:Program) (ops:Array Oper) (l:List Oper) (fr:Fr) (st:St) (fr':Fr) (st':St):Prop:=
 eS st st'/\fr'.n=fr.n/\∀{ro:Option Nat} {D:List Deferred} {c:Ctx} {w:World} {a:Act},dM c st.look w->Wf st->pH c st.next st'.next->lI D c fr a->∀{Q:Exit->Act->World->Prop},
  (∀c' a' w',lI D c' fr' a'->dM c' st'.look w'->Step st.next st'.next c st.look w c' st'.look w'->Q .normal a' w')->wpListIn (jd ro) 0 P ops Q l a w
def xh (P:Program) (ops:Array Oper) (l:List Oper) (fr:Fr) (st:St) (Φ:Fr->St->Prop):Prop:=∃fr' st',BU P ops l fr st fr' st'/\Φ fr' st'
section
variable {P:Program} {ops:Array Oper} {l:List Oper} {o:Oper} {fr fr1:Fr} {st st1:St} {s:SVal} {Φ:Fr->St->Prop}
theorem M6 {d:Option Nat} (h:ra fr d s=some fr1):fr1.n=fr.n:=by
 cases d with
 |none=>rw[iW h]
 |some d=>exact(fu (gJ h)).2.1
theorem Rg (h:Φ fr st):xh P ops [] fr st Φ:=⟨fr,st,⟨eS.refl _,rfl,fun{_ _ c w a} hr _ _ hf _ hq=>hq c a w hf hr (Step.refl _ _ _ _)⟩,h⟩
theorem Nh (hw:l6 ops.toList fr o.guard=some true) (ho:bG P o (Fw fr) st s st1) (hp:ra fr o.dst s=some fr1) (h:xh P ops l fr1 st1 Φ):xh P ops (o::l) fr st Φ:=by
 obtain⟨fr',st',⟨h5,h6,h7⟩,h8⟩:=h
 refine⟨fr',st',⟨ho.eX.trans h5,h6.trans (M6 hp),fun{ro D c w a} hr hwf hf hfr Q hq=> ?_⟩,h8⟩
 unfold wpListIn
 rw[B3 rfl hw hfr.get]
 refine ho.wp ro (ho.ok hr hwf (hf.mono (V2 _) h5.next) (e:=a.eval) (fun x _ s=>hfr.eval x s) a _ Q fun c1 v w1 hg=> ?_)
 refine h7 hg.rep (hwf.eX ho.eX) (hf.step hg.step ho.eX.next) ((hfr.le hg.step.le).put hp hg.val) fun c2 a2 w2 k1 k2 k3=> ?_
 exact hq c2 a2 w2 k1 k2 (hg.step.trans k3 ho.eX.next h5.next)
theorem Ng (hw:l6 ops.toList fr o.guard=some false) (hp:ra fr o.dst (.dZ [])=some fr1) (h:xh P ops l fr1 st Φ):xh P ops (o::l) fr st Φ:=by
 obtain⟨fr',st',⟨h5,h6,h7⟩,h8⟩:=h
 refine⟨fr',st',⟨h5,h6.trans (M6 hp),fun{ro D c w a} hr hwf hf hfr Q hq=> ?_⟩,h8⟩
 unfold wpListIn
 rw[B3 rfl hw hfr.get]
 exact⟨fun _ _=>trivial,h7 hr hwf hf (hfr.put hp ⟨[],rfl,rfl⟩) hq⟩
theorem lI.sub {D:List Deferred} {c:Ctx} {a:Act} (h:lI D c fr a) (hn:fr1.n=fr.n) (hs:∀t s,fr1.get t=some s->fr.get t=some s):lI D c fr1 a:=⟨by rw[hn];exact h.size,fun t s ht=>h.get t s (hs t s ht),h.defers⟩
end
theorem GB {lo hi:Nat} {c c':Ctx} {w w':World} {G G' H H':gy} (T:Nat->Prop) (hr:dM c H w) (hsub:∀n o,G n=some o->H n=some o) (hr':dM c' G' w') (hs:Step lo hi c G w c' G' w')
  (h1:∀n,T n->H' n=G' n) (h2:∀n,¬T n->H' n=H n) (h3:∀n,¬T n->G' n=G n):dM c' H' w'/\Step lo hi c H w c' H' w':=by
 have own_up:∀r,fU c G r->fU c H r:=fun r ⟨m,o,l,a,b,d⟩=>⟨m,o,l,hsub _ _ a,b,d⟩
 have split:∀n o,H' n=some o->G' n=some o\/(H n=some o/\G n=none/\¬T n):=fun n o hn=>by
  by_cases ht:T n
  ·exact .inl ((h1 n ht)▸hn)
  ·have hH:H n=some o:=(h2 n ht)▸hn
   cases hg:G n with
   |none=>exact .inr ⟨hH,rfl,ht⟩
   |some o'=>
    have:=hsub _ _ hg
    rw[hH] at this
    cases this
    exact .inl ((h3 n ht).trans hg)
 have outer:∀n o,H n=some o->G n=none->∃l,c.ρ n=some l/\c'.ρ n=some l/\eT c o l w/\∀r,iO l=some r->r<w.heap.size/\¬fU c G r:=fun n o hn hg=>by
  obtain⟨l,a,b⟩:=hr.dO n o hn
  refine⟨l,a,(hs.hid n l hg a).2,b,fun r hlr=>⟨b.lt hlr,fun⟨m,om,lm,d,e,f⟩=> ?_⟩⟩
  have hne:m≠n:=fun q=>by subst q;rw[hg] at d;cases d
  exact hr.sep m n om o lm l r (hsub _ _ d) hn hne e a f hlr
 have mixed:∀n o l m o2 l2 r,G' n=some o->c'.ρ n=some l->iO l=some r->H m=some o2->G m=none->c'.ρ m=some l2->iO l2≠some r:=fun n o l m o2 l2 r a b d e f g hq=>by
  obtain⟨l3,g1,g2,g3,g4⟩:=outer m o2 e f
  rw[g2] at g
  cases g
  obtain⟨g5,g6⟩:=g4 r hq
  rcases hs.owns r ⟨n,o,l,a,b,d⟩ with h|h
  ·exact g6 h
  ·omega
 refine⟨⟨fun n o hn=> ?_,fun n m o1 o2 l1 l2 r hn hm hne KQ hl2 hb1 hb2=> ?_,hr'.fz⟩,⟨hs.le,hs.off,fun k l hk hl=> ?_,hs.os,hs.tape,hs.output,hs.size,fun r hr0 hno=>hs.kept r hr0 fun h=>hno (own_up r h),fun r ⟨n,o,l,hn,hl,hb⟩=> ?_,fun b i v hv=> ?_⟩⟩
 ·rcases split n o hn with h|⟨h,hg,_⟩
  ·exact hr'.dO n o h
  ·obtain⟨l,a,b,d,e⟩:=outer n o h hg
   refine⟨l,b,d.s9 hs.le (fun r hlr=>hs.kept r (e r hlr).1 (e r hlr).2) fun r hlr i v hv=> ?_⟩
   rcases hs.xV r i v hv with q|q|q
   ·exact q
   ·exact absurd q (e r hlr).2
   ·have:=(e r hlr).1;omega
 ·rcases split n o1 hn with h|⟨h,hg,_⟩
  ·rcases split m o2 hm with k|⟨k,kg,_⟩
   ·exact hr'.sep n m o1 o2 l1 l2 r h k hne KQ hl2 hb1 hb2
   ·exact mixed n o1 l1 m o2 l2 r h KQ hb1 k kg hl2 hb2
  ·rcases split m o2 hm with k|⟨k,kg,_⟩
   ·exact mixed m o2 l2 n o1 l1 r k hl2 hb2 h hg KQ hb1
   ·obtain⟨l,a,b,_⟩:=outer n o1 h hg
    obtain⟨l3,d,e,_⟩:=outer m o2 k kg
    rw[b] at KQ
    cases KQ
    rw[e] at hl2
    cases hl2
    exact hr.sep n m o1 o2 l1 l2 r h k hne a d hb1 hb2
 ·have hg:G k=none:=by
   cases hg:G k with
   |none=>rfl
   |some o=>rw[hsub _ _ hg] at hk;cases hk
  obtain⟨e1,e2⟩:=hs.hid k l hg hl
  refine⟨?_,e2⟩
  by_cases ht:T k
  ·rw[h1 k ht];exact e1
  ·rw[h2 k ht];exact hk
 ·rcases split n o hn with h|⟨h,hg,_⟩
  ·exact(hs.owns r ⟨n,o,l,h,hl,hb⟩).imp (own_up r) id
  ·obtain⟨l3,a,b,_⟩:=outer n o h hg
   rw[b] at hl
   cases hl
   exact .inl ⟨n,o,l,h,a,hb⟩
 ·exact(hs.xV b i v hv).imp id fun h=>h.imp (own_up b) id
structure ft where
 j:Nat
 lo:Nat
 hi:Nat
 log:List Nat
noncomputable def ordered (before:List Nat) (j k:Nat):Bool:=((before.getD k 0).testBit j)||((before.getD j 0).testBit k)
noncomputable def Dg (r:List (Nat×Nat)):List Nat->List (Nat×Nat)
 |[]=>r
 |n::l=>(n,Nat.succ n)::Dg r l
noncomputable def jX (before:List Nat) (k:Nat) (ts:List ft) (r:List (Nat×Nat)):List (Nat×Nat):=
 List.rec (motive:=fun _=>List (Nat×Nat)) r (fun t _ ih=>Bool.rec (Bool.rec ((t.lo,t.hi)::Dg ih t.log) ih (ordered before t.j k)) ih (Nat.beq t.j k)) ts
noncomputable def below (m:Nat) (l:List Nat):List Nat:=
 List.rec (motive:=fun _=>List Nat) [] (fun n _ ih=>Bool.rec ih (n::ih) (Nat.ble (Nat.succ n) m)) l
noncomputable def eQ (before:List Nat) (k m:Nat) (ts:List ft) (r:List (Nat×Nat)):List (Nat×Nat):=
 List.rec (motive:=fun _=>List (Nat×Nat)) r (fun t _ ih=>Bool.rec (Bool.rec (Dg ih (below m t.log)) ih (ordered before t.j k)) ih (Nat.beq t.j k)) ts
noncomputable def ni (j lo hi:Nat) (log:List Nat) (acc:List ft):List ft:=
 match log with
 |[]=>Bool.rec (⟨j,lo,hi,[]⟩::acc) acc (Nat.beq lo hi)
 |_::_=>⟨j,lo,hi,log⟩::acc
noncomputable def QC:List Nat->List Nat->Bool
 |[],_=>true
 |n::r,b=>match b.any (Nat.beq n) with
  |true=>QC r b
  |false=>false
noncomputable def lD (before:List Nat) (j:Nat):Nat->Bool
 |0=>true
 |k+1=>match ordered before k j with
  |true=>lD before j k
  |false=>false
noncomputable def gP (before:List Nat) (sup:List ft):List ft->Bool
 |[]=>true
 |t::ts=>match t.log with
  |[]=>gP before sup ts
  |_::_=>match lD before t.j t.j with
   |true=>gP before sup ts
   |false=>match sup.any (fun s=>match Nat.beq s.j t.j with|true=>QC t.log s.log|false=>false) with
    |true=>gP before sup ts
    |false=>false
noncomputable def Kd (ops:List Oper) (n:Nat):Bool:=
 ops.zipIdx.all fun x=>
  (x.1.looksAt ops.toArray).all (fun t=>ops.zipIdx.all fun y=>y.1.dst !=some t||(decide (y.2<x.2)&&x.1.after.any (fun e=>e.on==y.2&&Region.binds .any e))||(decide (x.2<y.2)&&y.1.after.any (fun e=>e.on==x.2&&Region.binds .any e)))&&
  ops.zipIdx.all (fun y=>y.2==x.2||y.1.dst==none||y.1.dst !=x.1.dst)&&
  (match x.1.dst with|some d=>decide (d<n)|none=>true)&&
  x.1.after.all (fun e=> !Region.binds .any e||decide (e.on<x.2))
inductive mV (ops:Array Oper):Nat->Nat->Prop where
 |one {k:Nat} {o:Oper} {e:Edge}:ops[k]? =some o->e∈o.after->Region.binds .any e=true->mV ops k e.on
 |more {k j:Nat} {o:Oper} {e:Edge}:ops[k]? =some o->e∈o.after->Region.binds .any e=true->mV ops e.on j->mV ops k j
theorem pQ {f:Nat->Edge->Nat} {Q:Edge->Nat->Prop} (hf:∀s e j,(f s e).testBit j=true->s.testBit j=true\/Q e j):∀(l:List Edge) (s j:Nat),(l.foldl f s).testBit j=true->s.testBit j=true\/∃e∈l,Q e j
 |[],s,j,h=> .inl h
 |e::l,s,j,h=>by
  rcases pQ hf l (f s e) j h with h1|⟨e',h1,h2⟩
  ·rcases hf s e j h1 with h2|h2
   ·exact .inl h2
   ·exact .inr ⟨e,.head _,h2⟩
  ·exact .inr ⟨e',.tail _ h1,h2⟩
theorem sT (ops:Array Oper):∀(l:List Oper) (acc:Array Nat),(∀i,l[i]? =ops[acc.size+i]?)->(∀k j,(acc.getD k 0).testBit j=true->mV ops k j)->
  ∀k j,(((l.foldl (fun acc o=>acc.push (o.after.foldl (fun s e=>if Region.binds .any e then s|||2^e.on|||acc.getD e.on 0 else s) 0)) acc)).getD k 0).testBit j=true->mV ops k j
 |[],acc,_,h=>h
 |o::l,acc,hl,h=>by
  rw[WX]
  refine sT ops l _ (fun i=> ?_) fun k j hk=> ?_
  ·have:=hl (i+1)
   simp only[List.getElem?_cons_succ] at this
   rw[this,Array.size_push]
   congr 1
   omega
  ·have ho:ops[acc.size]? =some o:=by have:=hl 0;simpa using this.symm
   rw[W0,Array.getElem?_push] at hk
   split at hk
   ·rename_i e
    subst e
    simp only[Yw] at hk
    rw[<-Ys] at hk
    rcases pQ (Q:=fun e j=>Region.binds .any e=true/\(j=e.on\/(acc.getD e.on 0).testBit j=true)) (fun s e j hb=>by
     split at hb
     ·rename_i hbd
      rw[Nat.testBit_or,Nat.testBit_or,X1,X1] at hb
      rcases hb with(hb|hb)|hb
      ·exact .inl hb
      ·rw[Nat.testBit_two_pow] at hb
       exact .inr ⟨hbd,.inl (by simpa using(of_decide_eq_true hb).symm)⟩
      ·exact .inr ⟨hbd,.inr hb⟩
     ·exact .inl hb) o.after.toList 0 j hk with h1|⟨e,h1,h2,h3⟩
    ·simp at h1
    ·have h1:e∈o.after:=by simpa using h1
     rcases h3 with rfl|h3
     ·exact .one ho h1 h2
     ·exact .more ho h1 h2 (h _ _ h3)
   ·rename_i hne
    rw[<-W0] at hk
    exact h k j hk
theorem qM {ops:Array Oper} {k j:Nat} (h:(((Region.before ops).toList).getD k 0).testBit j=true):mV ops k j:=by
 unfold Region.before at h
 rw[<-Ys] at h
 refine sT ops ops.toList #[] (fun i=>by simp) (fun k j hk=>by simp at hk) k j ?_
 rw[W0]
 rw[Wg] at h
 simpa using h
theorem sU (n:Nat) (p:Nat×Nat) (l:List (Nat×Nat)):ck n (p::l)=true↔(p.1<=n/\n<p.2)\/ck n l=true:=by
 show @Bool.rec (fun _=>Bool) (ck n l) (@Bool.rec (fun _=>Bool) (ck n l) true (Nat.ble (Nat.succ n) p.2)) (Nat.ble p.1 n)=true↔_
 cases h1:Nat.ble p.1 n with
 |false=>
  have:=oj h1
  simp only
  constructor
  ·intro h;exact .inr h
  ·rintro(h|h)
   ·omega
   ·exact h
 |true=>
  have h1:=cU h1
  cases h2:Nat.ble (Nat.succ n) p.2 with
  |false=>
   have:=oj h2
   simp only
   constructor
   ·intro h;exact .inr h
   ·rintro(h|h)
    ·omega
    ·exact h
  |true=>have:=cU h2;simp;left;omega
theorem mU (n:Nat) (r:List (Nat×Nat)):∀l,ck n (Dg r l)=true↔n∈l\/ck n r=true
 |[]=>by simp[Dg]
 |m::l=>by
  rw[Dg,sU,mU n r l,V9]
  constructor
  ·rintro(h|h|h)
   ·exact .inl (.inl ii)
   ·exact .inl (.inr h)
   ·exact .inr h
  ·rintro((h|h)|h)
   ·exact .inl ii
   ·exact .inr (.inl h)
   ·exact .inr (.inr h)
theorem G5 (m n:Nat) (l:List Nat):below m (n::l)= @Bool.rec (fun _=>List Nat) (below m l) (n::below m l) (Nat.ble (Nat.succ n) m):=rfl
theorem ky {m n:Nat}:∀{l:List Nat},n∈below m l↔n∈l/\n<m
 |[]=>by simp[below]
 |x::l=>by
  rw[G5]
  cases h:Nat.ble (Nat.succ x) m with
  |true=>
   have:=cU h
   simp only[V9,ky (l:=l)]
   constructor
   ·rintro(h|h)
    ·exact⟨.inl h,by omega⟩
    ·exact⟨.inr h.1,h.2⟩
   ·rintro⟨h|h,h2⟩
    ·exact .inl h
    ·exact .inr ⟨h,h2⟩
  |false=>
   have:=oj h
   simp only[V9,ky (l:=l)]
   constructor
   ·rintro h;exact⟨.inr h.1,h.2⟩
   ·rintro⟨h|h,h2⟩
    ·omega
    ·exact⟨h,h2⟩
theorem fD (before:List Nat) (k n:Nat) (r:List (Nat×Nat)):∀ts,ck n (jX before k ts r)=true↔ck n r=true\/∃t∈ts,t.j≠k/\ordered before t.j k=false/\((t.lo<=n/\n<t.hi)\/n∈t.log)
 |[]=>by simp[jX]
 |t::ts=>by
  have ih:=fD before k n r ts
  have e:jX before k (t::ts) r= @Bool.rec (fun _=>List (Nat×Nat)) (@Bool.rec (fun _=>List (Nat×Nat)) ((t.lo,t.hi)::Dg (jX before k ts r) t.log) (jX before k ts r) (ordered before t.j k)) (jX before k ts r) (Nat.beq t.j k):=rfl
  rw[e]
  simp only[V9,exists_eq_or_imp]
  cases h1:Nat.beq t.j k with
  |true=>
   have h1:=Xy h1
   simp only[ih]
   constructor
   ·rintro(h|h)
    ·exact .inl h
    ·exact .inr (.inr h)
   ·rintro(h|h|h)
    ·exact .inl h
    ·exact absurd h1 h.1
    ·exact .inr h
  |false=>
   have h1:=beq_false h1
   cases h2:ordered before t.j k with
   |true=>
    simp only[ih]
    constructor
    ·rintro(h|h)
     ·exact .inl h
     ·exact .inr (.inr h)
    ·rintro(h|h|h)
     ·exact .inl h
     ·cases h.2.1
     ·exact .inr h
   |false=>
    simp only[sU,mU,ih]
    constructor
    ·rintro(h|h|h|h)
     ·exact .inr (.inl ⟨h1,trivial,.inl h⟩)
     ·exact .inr (.inl ⟨h1,trivial,.inr h⟩)
     ·exact .inl h
     ·exact .inr (.inr h)
    ·rintro(h|⟨_,_,h|h⟩|h)
     ·exact .inr (.inr (.inl h))
     ·exact .inl h
     ·exact .inr (.inl h)
     ·exact .inr (.inr (.inr h))
theorem fm (before:List Nat) (k m n:Nat) (r:List (Nat×Nat)):∀ts,ck n (eQ before k m ts r)=true↔ck n r=true\/∃t∈ts,t.j≠k/\ordered before t.j k=false/\n∈t.log/\n<m
 |[]=>by simp[eQ]
 |t::ts=>by
  have ih:=fm before k m n r ts
  have e:eQ before k m (t::ts) r= @Bool.rec (fun _=>List (Nat×Nat)) (@Bool.rec (fun _=>List (Nat×Nat)) (Dg (eQ before k m ts r) (below m t.log)) (eQ before k m ts r) (ordered before t.j k)) (eQ before k m ts r) (Nat.beq t.j k):=rfl
  rw[e]
  simp only[V9,exists_eq_or_imp]
  cases h1:Nat.beq t.j k with
  |true=>
   have h1:=Xy h1
   simp only[ih]
   constructor
   ·rintro(h|h)
    ·exact .inl h
    ·exact .inr (.inr h)
   ·rintro(h|h|h)
    ·exact .inl h
    ·exact absurd h1 h.1
    ·exact .inr h
  |false=>
   have h1:=beq_false h1
   cases h2:ordered before t.j k with
   |true=>
    simp only[ih]
    constructor
    ·rintro(h|h)
     ·exact .inl h
     ·exact .inr (.inr h)
    ·rintro(h|h|h)
     ·exact .inl h
     ·cases h.2.1
     ·exact .inr h
   |false=>
    simp only[mU,ih,ky]
    constructor
    ·rintro(h|h|h)
     ·exact .inr (.inl ⟨h1,trivial,h⟩)
     ·exact .inl h
     ·exact .inr (.inr h)
    ·rintro(h|⟨_,_,h⟩|h)
     ·exact .inr (.inl h)
     ·exact .inl h
     ·exact .inr (.inr h)
theorem AH (before:List Nat) (j k:Nat):ordered before j k=ordered before k j:=by
 unfold ordered
 rw[Bool.or_comm]
theorem oJ {ops:Array Oper} {j k:Nat} (h:ordered (Region.before ops).toList j k=true):mV ops k j\/mV ops j k:=by
 unfold ordered at h
 rw[X1] at h
 exact h.imp qM qM
theorem lP {before:List Nat} {j:Nat}:∀{m:Nat},lD before j m=true->∀k,k<m->ordered before k j=true
 |0,_,k,hk=>by omega
 |m+1,h,k,hk=>by
  unfold lD at h
  split at h
  ·rename_i h1
   by_cases e:k=m
   ·subst e;exact h1
   ·exact lP h k ii
  ·cases h
theorem yz:∀{l b:List Nat},QC l b=true->∀n∈l,n∈b
 |[],_,_,n,hn=>by cases hn
 |x::l,b,h,n,hn=>by
  unfold QC at h
  split at h
  ·rename_i h1
   rcases V9.1 hn with rfl|hn
   ·exact BP h1
   ·exact yz h n hn
  ·cases h
theorem jD {before:List Nat} {sup:List ft}:∀{ts:List ft},gP before sup ts=true->∀t∈ts,∀n∈t.log,(∀k,k<t.j->ordered before k t.j=true)\/∃s∈sup,s.j=t.j/\n∈s.log
 |[],_,t,ht,_,_=>by cases ht
 |x::ts,h,t,ht,n,hn=>by
  unfold gP at h
  split at h
  ·rename_i h0
   rcases V9.1 ht with rfl|ht
   ·rw[h0] at hn;cases hn
   ·exact jD h t ht n hn
  ·split at h
   ·rename_i h1
    rcases V9.1 ht with rfl|ht
    ·exact .inl fun k hk=>lP h1 k hk
    ·exact jD h t ht n hn
   ·split at h
    ·rename_i h1
     rcases V9.1 ht with rfl|ht
     ·rw[Yy] at h1
      obtain⟨s,hs,h2⟩:=h1
      split at h2
      ·rename_i h3
       exact .inr ⟨s,hs,Xy h3,yz h2 n hn⟩
      ·cases h2
     ·exact jD h t ht n hn
    ·cases h
structure yk (ops:Array Oper) (n:Nat):Prop where
 dep:∀(k:Nat) (o:Oper),ops[k]? =some o->∀t∈o.looksAt ops,∀(j:Nat) (o':Oper),ops[j]? =some o'->o'.dst=some t->(j<k/\∃e∈o.after,e.on=j/\Region.binds .any e=true)\/(k<j/\∃e∈o'.after,e.on=k/\Region.binds .any e=true)
 dist:∀(k:Nat) (o:Oper),ops[k]? =some o->∀(j:Nat) (o':Oper),ops[j]? =some o'->o.dst≠none->o'.dst=o.dst->j=k
 bound:∀(k:Nat) (o:Oper),ops[k]? =some o->∀d:Nat,o.dst=some d->d<n
 down:∀(k:Nat) (o:Oper),ops[k]? =some o->∀e∈o.after,Region.binds .any e=true->e.on<k
theorem Kc {ops:Array Oper} {n:Nat} (h:Kd ops.toList n=true):yk ops n:=by
 unfold Kd at h
 rw[XA] at h
 have mem:∀k o,ops[k]? =some o->(o,k)∈ops.toList.zipIdx:=fun k o hk=>by
  rw[List.mem_zipIdx_iff_getElem?];simpa using hk
 refine⟨fun k o hk t ht j o' hj hd=> ?_,fun k o hk j o' hj hn he=> ?_,fun k o hk d hd=> ?_,fun k o hk e he hb=> ?_⟩
 ·have:=h _ (mem k o hk)
  simp only[Wa,XA] at this
  have h2:=this.1.1.1 t (by simpa using ht) _ (mem j o' hj)
  rw[hd] at h2
  simp only[bne_self_eq_false,Bool.false_or,X1,Wa,WY,Array.any_eq_true',Yo] at h2
  exact h2
 ·have:=h _ (mem k o hk)
  simp only[Wa,XA] at this
  have h2:=this.1.1.2 _ (mem j o' hj)
  simp at h2
  rcases h2 with(h2|h2)|h2
  ·exact h2
  ·rw[<-he] at hn;exact absurd h2 hn
  ·exact absurd he h2
 ·have:=h _ (mem k o hk)
  simp only[Wa,XA] at this
  have h2:=this.1.2
  simp[hd] at h2
  exact h2
 ·have:=h _ (mem k o hk)
  simp only[Wa,XA] at this
  have h2:=this.2
  rw[Array.all_eq_true_iff_forall_mem] at h2
  have:=h2 e he
  simpa[hb] using this
structure lX where
 fr:Fr
 st:St
 s:SVal
 b:Bool
 post:St
 acc:List ft
noncomputable def inner (before:List Nat) (sup:List ft) (k:Nat) (R:lX):St:=⟨R.st.heap,R.st.next,R.st.next,[],jX before k R.acc (eQ before k R.st.next sup R.st.cE)⟩
structure eG (P:Program) (ops:Array Oper) (before:List Nat) (sup:List ft) (k:Nat) (o:Oper) (R R':lX):Prop where
 want:l6 ops.toList R.fr o.guard=some R.b
 run:R.b=true->bG P o (Fw R.fr) (inner before sup k R) R.s R.post
 not:R.b=false->R.s= .dZ []/\R.post=inner before sup k R
 put:ra R.fr o.dst R.s=some R'.fr
 st:R'.st=⟨R.post.heap,R.post.next,R.st.mark,below R.st.mark R.post.log++R.st.log,R.st.cE⟩
 acc:R'.acc=ni k R.st.next R.post.next R.post.log R.acc
inductive gz (P:Program) (ops:Array Oper) (before:List Nat) (sup:List ft):List Oper->Nat->Fr->St->List ft->Fr->St->List ft->Prop where
 |nil {k:Nat} {fr:Fr} {st:St} {acc:List ft}:gz P ops before sup [] k fr st acc fr st acc
 |skip {o:Oper} {l:List Oper} {k:Nat} {fr fr1 fr':Fr} {st st':St} {acc acc':List ft}:l6 ops.toList fr o.guard=some false->ra fr o.dst (.dZ [])=some fr1->gz P ops before sup l (k+1) fr1 st acc fr' st' acc'->gz P ops before sup (o::l) k fr st acc fr' st' acc'
 |cons {o:Oper} {l:List Oper} {k:Nat} {fr fr1 fr':Fr} {st post st':St} {acc acc':List ft} {s:SVal}:l6 ops.toList fr o.guard=some true->bG P o (Fw fr) ⟨st.heap,st.next,st.next,[],jX before k acc (eQ before k st.next sup st.cE)⟩ s post->
   ra fr o.dst s=some fr1->gz P ops before sup l (k+1) fr1 ⟨post.heap,post.next,st.mark,below st.mark post.log++st.log,st.cE⟩ (ni k st.next post.next post.log acc) fr' st' acc'->gz P ops before sup (o::l) k fr st acc fr' st' acc'
theorem Mk {P:Program} {ops:Array Oper} {before:List Nat} {sup:List ft} {l:List Oper} {k:Nat} {fr fr':Fr} {st st':St} {acc acc':List ft} (h:gz P ops before sup l k fr st acc fr' st' acc'):
  ∃R:Nat->lX,(R k).fr=fr/\(R k).st=st/\(R k).acc=acc/\((R (k+l.length)).fr=fr'/\(R (k+l.length)).st=st'/\(R (k+l.length)).acc=acc')/\∀(i:Nat) (o:Oper),l[i]? =some o->eG P ops before sup (k+i) o (R (k+i)) (R (k+i+1)):=by
 have fin:∀{o:Oper} {l:List Oper} {k:Nat} (R:Nat->lX) (rc:lX) {fr':Fr} {st':St} {acc':List ft},eG P ops before sup k o rc (R (k+1))->((R (k+1+l.length)).fr=fr'/\(R (k+1+l.length)).st=st'/\(R (k+1+l.length)).acc=acc')->
   (∀(i:Nat) (o:Oper),l[i]? =some o->eG P ops before sup (k+1+i) o (R (k+1+i)) (R (k+1+i+1)))->
   ∃R:Nat->lX,(R k).fr=rc.fr/\(R k).st=rc.st/\(R k).acc=rc.acc/\((R (k+(o::l).length)).fr=fr'/\(R (k+(o::l).length)).st=st'/\(R (k+(o::l).length)).acc=acc')/\
    ∀(i:Nat) (o':Oper),(o::l)[i]? =some o'->eG P ops before sup (k+i) o' (R (k+i)) (R (k+i+1)):=by
  intro o l k R rc fr' st' acc' hs hr hall
  refine⟨fun j=>if j=k then rc else R j,by simp,by simp,by simp,?_,fun i o' hi=> ?_⟩
  ·have:k+1+l.length=k+(o::l).length:=by simp;omega
   rw[this] at hr
   have hne:k+(o::l).length≠k:=by simp
   simp only[TP hne]
   exact hr
  ·cases i with
   |zero=>
    simp only[XR,WN] at hi
    subst hi
    simpa using hs
   |succ i=>
    have:=hall i o' (by simpa using hi)
    have e:k+1+i=k+(i+1):=by omega
    rw[e] at this
    simp only[TP (show k+(i+1)≠k by omega),TP (show k+(i+1)+1≠k by omega)]
    exact this
 induction h with
 |nil=>
  rename_i k fr st acc
  exact⟨fun _=>⟨fr,st,.nilPtr,false,st,acc⟩,rfl,rfl,rfl,⟨rfl,rfl,rfl⟩,fun i o hi=>by simp at hi⟩
 |skip h1 h2 _ ih=>
  rename_i o l k fr fr1 fr' st st' acc acc' _
  obtain⟨R,g1,g2,g3,g4,g5⟩:=ih
  exact fin R ⟨fr,st,.dZ [],false,inner before sup k ⟨fr,st,.dZ [],false,st,acc⟩,acc⟩ ⟨h1,fun e=>(by cases e),fun _=>⟨rfl,rfl⟩,by rw[g1];exact h2,by rw[g2];rfl,by
   rw[g3]
   show acc= @Bool.rec (fun _=>List ft) (⟨k,st.next,st.next,[]⟩::acc) acc (Nat.beq st.next st.next)
   rw[Yu]⟩ g4 g5
 |cons h1 h2 h3 _ ih=>
  rename_i o l k fr fr1 fr' st post st' acc acc' s _
  obtain⟨R,g1,g2,g3,g4,g5⟩:=ih
  exact fin R ⟨fr,st,s,true,post,acc⟩ ⟨h1,fun _=>h2,fun e=>(by cases e),by rw[g1];exact h3,by rw[g2],by rw[g3]⟩ g4 g5
theorem Dl {j lo hi:Nat} {log:List Nat} {acc:List ft} {t:ft}:t∈ni j lo hi log acc↔t∈acc\/(t=⟨j,lo,hi,log⟩/\(lo≠hi\/log≠[])):=by
 unfold ni
 split
 ·cases h:Nat.beq lo hi with
  |true=>have:=Xy h;simp[this]
  |false=>
   have:=beq_false h
   simp only[V9]
   constructor
   ·rintro(h|h)
    ·exact .inr ⟨h,.inl this⟩
    ·exact .inl h
   ·rintro(h|h)
    ·exact .inr h
    ·exact .inl h.1
 ·simp only[V9]
  constructor
  ·rintro(h|h)
   ·exact .inr ⟨h,.inr (by simp)⟩
   ·exact .inl h
  ·rintro(h|h)
   ·exact .inr h
   ·exact .inl h.1
def Touch (R:lX) (n:Nat):Prop:=(R.st.next<=n/\n<R.post.next)\/n∈R.post.log
instance (R:lX) (n:Nat):Decidable (Touch R n):=by unfold Touch;infer_instance
theorem JT {P:Program} {ops:Array Oper} {sup:List ft} {R:Nat->lX} (hR:∀(k:Nat) (o:Oper),ops[k]? =some o->eG P ops (Region.before ops).toList sup k o (R k) (R (k+1))) {k:Nat} {o:Oper} (ho:ops[k]? =some o):eS (inner (Region.before ops).toList sup k (R k)) (R k).post:=by
 have h:=hR k o ho
 cases hb:(R k).b with
 |true=>exact(h.run hb).eX
 |false=>rw[(h.not hb).2];exact eS.refl _
theorem mz {P:Program} {ops:Array Oper} {sup:List ft} {R:Nat->lX} (hR:∀(k:Nat) (o:Oper),ops[k]? =some o->eG P ops (Region.before ops).toList sup k o (R k) (R (k+1))) {k:Nat} {o:Oper} (ho:ops[k]? =some o):(R k).st.next<=(R k).post.next/\(R (k+1)).st.next=(R k).post.next:=by
 have h:=hR k o ho
 exact⟨(JT hR ho).next,by rw[h.st]⟩
theorem qg {P:Program} {ops:Array Oper} {sup:List ft} {R:Nat->lX} (hR:∀(k:Nat) (o:Oper),ops[k]? =some o->eG P ops (Region.before ops).toList sup k o (R k) (R (k+1))) {k:Nat} {o:Oper} (ho:ops[k]? =some o) {n:Nat} (hn:n∈(R k).post.log):ck n (inner (Region.before ops).toList sup k (R k)).cE=false/\n<(R k).st.next:=by
 rcases(JT hR ho).LQ n hn with h|h
 ·cases h
 ·exact h
theorem rh {sup:List ft} {k n:Nat} {before:List Nat} {rc:lX} (h:ck n (inner before sup k rc).cE=false):ck n rc.st.cE=false:=by
 cases hb:ck n rc.st.cE with
 |false=>rfl
 |true=>
  have:ck n (inner before sup k rc).cE=true:=(fD ..).2 (.inl ((fm ..).2 (.inl hb)))
  rw[h] at this
  cases this
theorem QD {P:Program} {ops:Array Oper} {sup:List ft} {R:Nat->lX} (hR:∀(k:Nat) (o:Oper),ops[k]? =some o->eG P ops (Region.before ops).toList sup k o (R k) (R (k+1))) {k:Nat} {o:Oper} (ho:ops[k]? =some o):eS (R k).st (R (k+1)).st:=by
 have hs:=JT hR ho
 have h:=hR k o ho
 rw[h.st]
 refine⟨rfl,rfl,hs.next,fun n hn=>WB _ hn,fun n h1 h2 h3=> ?_,fun hw=>hs.wf hw,fun n hn=> ?_⟩
 ·have hnl:n∉(R k).post.log:=fun hm=>h3 (Wu _ (ky.2 ⟨hm,h2⟩))
  exact hs.same n h1 h1 hnl
 ·rcases V8.1 hn with hm|hm
  ·obtain⟨h4,h5⟩:=ky.1 hm
   exact .inr ⟨rh (qg hR ho h4).1,h5⟩
  ·exact .inl hm
theorem r8 {P:Program} {ops:Array Oper} {sup:List ft} {R:Nat->lX} (hR:∀(k:Nat) (o:Oper),ops[k]? =some o->eG P ops (Region.before ops).toList sup k o (R k) (R (k+1))):∀{k:Nat},k<=ops.size->∀{j:Nat},j<=k->eS (R j).st (R k).st
 |0,_,j,hj=>by cases Yh.1 hj;exact eS.refl _
 |k+1,hk,j,hj=>by
  rcases X7 hj with rfl|hlt
  ·exact eS.refl _
  ·exact(r8 hR ii ii).trans (QD hR (WL (show k<ops.size by omega)))
theorem Qd {P:Program} {ops:Array Oper} {sup:List ft} {R:Nat->lX} (hR:∀(k:Nat) (o:Oper),ops[k]? =some o->eG P ops (Region.before ops).toList sup k o (R k) (R (k+1))) (hwf:Wf (R 0).st) {k:Nat} (hk:k<=ops.size):Wf (R k).st:=hwf.eX (r8 hR hk (Wd _))
theorem gL {P:Program} {ops:Array Oper} {sup:List ft} {R:Nat->lX} (hR:∀(k:Nat) (o:Oper),ops[k]? =some o->eG P ops (Region.before ops).toList sup k o (R k) (R (k+1))) {j k:Nat} (hj:j<k) (hk:k<=ops.size):(R j).post.next<=(R k).st.next:=by
 have:=(mz hR (WL (show j<ops.size by omega))).2
 rw[<-this]
 exact(r8 hR hk (show j+1<=k from hj)).next
theorem Ju {P:Program} {ops:Array Oper} {sup:List ft} {R:Nat->lX} (hR:∀(k:Nat) (o:Oper),ops[k]? =some o->eG P ops (Region.before ops).toList sup k o (R k) (R (k+1))) (hacc:(R 0).acc=[]):∀{k:Nat},k<=ops.size->∀t,t∈(R k).acc↔∃j,j<k/\t=⟨j,(R j).st.next,(R j).post.next,(R j).post.log⟩/\((R j).st.next≠(R j).post.next\/(R j).post.log≠[])
 |0,_,t=>by
  rw[hacc]
  constructor
  ·intro h;cases h
  ·rintro⟨j,hj,_⟩;omega
 |k+1,hk,t=>by
  have h:=hR k _ (WL (show k<ops.size by omega))
  rw[h.acc,Dl,Ju hR hacc (show k<=ops.size by omega)]
  constructor
  ·rintro(⟨j,hj,h1⟩|⟨h1,h2⟩)
   ·exact⟨j,by omega,h1⟩
   ·exact⟨k,by omega,h1,h2⟩
  ·rintro⟨j,hj,h1,h2⟩
   by_cases e:j=k
   ·subst e;exact .inr ⟨h1,h2⟩
   ·exact .inl ⟨j,by omega,h1,h2⟩
theorem zS {P:Program} {ops:Array Oper} {sup:List ft} {R:Nat->lX} (hR:∀(k:Nat) (o:Oper),ops[k]? =some o->eG P ops (Region.before ops).toList sup k o (R k) (R (k+1))) (hacc:(R 0).acc=[]) {j k:Nat} (hj:j<k) (hk:k<=ops.size) {n:Nat} (ht:Touch (R j) n) (ho:ordered (Region.before ops).toList j k=false):ck n (inner (Region.before ops).toList sup k (R k)).cE=true:=by
 refine(fD ..).2 (.inr ⟨⟨j,(R j).st.next,(R j).post.next,(R j).post.log⟩,(Ju hR hacc hk _).2 ⟨j,hj,rfl,?_⟩,by show j≠k;omega,ho,ht⟩)
 rcases ht with h|h
 ·left;omega
 ·right;intro e;rw[e] at h;cases h
theorem wfI {P:Program} {ops:Array Oper} {sup:List ft} {R:Nat->lX} (hR:∀(k:Nat) (o:Oper),ops[k]? =some o->eG P ops (Region.before ops).toList sup k o (R k) (R (k+1))) (hacc:(R 0).acc=[]) (hwf:Wf (R 0).st) {k:Nat} {o:Oper} (ho:ops[k]? =some o):Wf (inner (Region.before ops).toList sup k (R k)):=by
 have hk:k<ops.size:=(Wl.1 ho).1
 refine⟨(Qd hR hwf ii).none,fun n hn=> ?_,V2 _⟩
 rcases(fD ..).1 hn with h|⟨t,h1,h2,h3,h4⟩
 ·rcases(fm ..).1 h with h|⟨t,_,_,_,_,h5⟩
  ·exact(Qd hR hwf ii).cE n h
  ·exact h5
 ·obtain⟨j,hj,rfl,_⟩:=(Ju hR hacc ii t).1 h1
  have hm:=gL hR hj ii
  have hoj:=WL (show j<ops.size by omega)
  have hns:=mz hR hoj
  rcases h4 with h4|h4
  ·show n<(R k).st.next
   simp only at h4
   omega
  ·have:=(qg hR hoj h4).2
   show n<(R k).st.next
   omega
theorem xr {P:Program} {ops:Array Oper} {sup:List ft} {R:Nat->lX} (hR:∀(k:Nat) (o:Oper),ops[k]? =some o->eG P ops (Region.before ops).toList sup k o (R k) (R (k+1))) (hacc:(R 0).acc=[]) {j k:Nat} (hj:j<k) {o:Oper} (ho:ops[k]? =some o) {n:Nat} (h1:Touch (R j) n) (h2:Touch (R k) n):ordered (Region.before ops).toList j k=true:=by
 have hk:k<ops.size:=(Wl.1 ho).1
 cases hb:ordered (Region.before ops).toList j k with
 |true=>rfl
 |false=>
  exfalso
  have hban:=zS hR hacc hj ii h1 hb
  have hm:=gL hR hj (show k<=ops.size by omega)
  have hoj:=WL (show j<ops.size by omega)
  have hns:=mz hR hoj
  rcases h2 with h2|h2
  ·rcases h1 with h1|h1
   ·omega
   ·have:=(qg hR hoj h1).2;omega
  ·rw[(qg hR ho h2).1] at hban
   cases hban
noncomputable def gD (R:Nat->lX) (D:Nat->Bool):Nat->gy
 |0,n=>(R 0).st.look n
 |k+1,n=>if D k=true/\Touch (R k) n then(R (k+1)).st.look n else gD R D k n
theorem lj {R:Nat->lX} {D:Nat->Bool} {n:Nat}:∀{N m:Nat},m<=N->(∀i,m<=i->i<N->D i=true->¬Touch (R i) n)->gD R D N n=gD R D m n
 |0,m,hm,_=>by cases Yh.1 hm;rfl
 |N+1,m,hm,h=>by
  rcases X7 hm with rfl|hlt
  ·rfl
  ·rw[gD,TP (fun q=>h N ii ii q.1 q.2)]
   exact lj ii fun i h1 h2=>h i h1 ii
theorem yS {R:Nat->lX} {D D':Nat->Bool} {k:Nat} (hD:∀j,j≠k->D' j=D j) {n:Nat} (hn:¬Touch (R k) n):∀N,gD R D' N n=gD R D N n
 |0=>rfl
 |N+1=>by
  rw[gD,gD,yS hD hn N]
  by_cases e:N=k
  ·subst e
   rw[TP (fun q=>hn q.2),TP (fun q=>hn q.2)]
  ·rw[hD N e]
structure Fj (c:Ctx) (fr:Fr) (a:Act) (L:List Tmp):Prop where
 get:∀t∈L,∀s,fr.get t=some s->∃v,a.tmps[t]? =some v/\Den c s v
theorem Fj.eval {c:Ctx} {fr:Fr} {a:Act} {ops:Array Oper} {o:Oper} (h:Fj c fr a (o.looksAt ops)) (x:Operand) (hx:x∈o.op.operands.toList) (s:SVal) (hs:Fw fr x=some s):Den c s (a.eval x):=by
 cases x with
 |tmp t=>
  obtain⟨v,h1,h2⟩:=h.get t (Wu _ (List.mem_filterMap.2 ⟨.tmp t,hx,rfl⟩)) s hs
  rw[show a.eval (.tmp t)=v by simp[Act.eval,W0,h1]]
  exact h2
 |const v=>exact AL hs c
 |global g=>cases hs
 |func f=>cases hs;exact⟨[],[],rfl,rfl,rfl⟩
theorem Fj.want {c:Ctx} {fr:Fr} {a:Act} {ops:Array Oper} {o:Oper} (hf:Fj c fr a (o.looksAt ops)) {b:Bool} (h:l6 ops.toList fr o.guard=some b):Region.wanted o (yielded ops a.tmps)=b:=by
 unfold Region.wanted
 cases hg:o.guard with
 |none=>rw[hg] at h;cases h;rfl
 |some p=>
  obtain⟨j,want⟩:=p
  rw[hg] at h
  have h:eR (ops.toList[j]?) (fun q=>eR q.dst fun d=>eR (fr.get d) fun v=>gZ want v)=some b:=h
  rw[bm] at h
  obtain⟨q,h1,h⟩:=h
  rw[bm] at h
  obtain⟨d,h2,h⟩:=h
  rw[bm] at h
  obtain⟨s,h3,h4⟩:=h
  have h1:ops[j]? =some q:=by simpa using h1
  obtain⟨v,h5,h6⟩:=hf.get d (WB _ (by simp[hg,h1,h2])) s h3
  have:=qp h4 h6
  simp only[yielded,h1,VU,h2,h5]
  cases v<;>exact this
abbrev lN (listed:Array Bool):Nat->Bool:=fun k=>listed.getD k false
structure lJ (ops:Array Oper) (listed:Array Bool):Prop where
 size:listed.size=ops.size
 dep:∀(j:Nat) (o:Oper),ops[j]? =some o->lN listed j=true->∀e∈o.after,Region.binds .any e=true->lN listed e.on=true
theorem lJ.waits {ops:Array Oper} {listed:Array Bool} (h:lJ ops listed) {k j:Nat} (hw:mV ops k j):(∀o,ops[k]? =some o->∀e∈o.after,Region.binds .any e=true->lN listed e.on=true)->lN listed j=true:=by
 induction hw with
 |one h1 h2 h3=>exact fun hd=>hd _ h1 _ h2 h3
 |more h1 h2 h3 _ ih=>exact fun hd=>ih fun o' ho'=>h.dep _ o' ho' (hd _ h1 _ h2 h3)
theorem lJ.of {ops:Array Oper} {listed:Array Bool} (h:lJ ops listed) {k j:Nat} (hw:mV ops k j) (hk:lN listed k=true):lN listed j=true:=
 h.waits hw fun o ho=>h.dep k o ho hk
structure xe (ops:Array Oper) (listed:Array Bool) (k:Nat) (o:Oper):Prop where
 op:ops[k]? =some o
 un:lN listed k=false
 U8:∀e∈o.after,Region.binds .any e=true->lN listed e.on=true
theorem B6 {ops:Array Oper} {R:Nat->lX} (hB:yk ops (R 0).fr.n) {k j:Nat} (h:mV ops k j):j<k:=by
 induction h with
 |one h1 h2 h3=>exact hB.down _ _ h1 _ h2 h3
 |more h1 h2 h3 _ ih=>exact Nat.lt_trans ih (hB.down _ _ h1 _ h2 h3)
theorem xS {ops:Array Oper} {R:Nat->lX} (hB:yk ops (R 0).fr.n) {listed:Array Bool} (hc:lJ ops listed) {k j:Nat} {o:Oper} (hr:xe ops listed k o) (hj:j<k) (ho:ordered (Region.before ops).toList j k=true):lN listed j=true:=by
 rcases oJ ho with h|h
 ·exact hc.waits h fun o' ho'=>by rw[hr.op] at ho';cases ho';exact hr.U8
 ·have:=B6 hB h;omega
theorem sj {ops:Array Oper} {R:Nat->lX} (hB:yk ops (R 0).fr.n) {listed:Array Bool} (hc:lJ ops listed) {k i:Nat} {o:Oper} (hr:xe ops listed k o) (hi:k<i) (hd:lN listed i=true):ordered (Region.before ops).toList k i=false:=by
 cases h:ordered (Region.before ops).toList k i with
 |false=>rfl
 |true=>
  exfalso
  rcases oJ h with h|h
  ·have:=hc.of h hd
   rw[hr.un] at this
   cases this
  ·have:=B6 hB h;omega
theorem ze {P:Program} {ops:Array Oper} {sup:List ft} {R:Nat->lX} (hR:∀(k:Nat) (o:Oper),ops[k]? =some o->eG P ops (Region.before ops).toList sup k o (R k) (R (k+1))) {n:Nat}:∀{k:Nat},k<=ops.size->∀{j:Nat},j<=k->(∀i,j<=i->i<k->¬Touch (R i) n)->Wf (R 0).st->(R k).st.look n=(R j).st.look n
 |0,_,j,hj,_,_=>by cases Yh.1 hj;rfl
 |k+1,hk,j,hj,h,hwf=>by
  rcases X7 hj with rfl|hlt
  ·rfl
  ·have ho:=WL (show k<ops.size by omega)
   rw[<-ze hR (show k<=ops.size by omega) (show j<=k by omega) (fun i h1 h2=>h i h1 ii) hwf]
   have ht:=h k ii ii
   have hs:=JT hR ho
   have hw:=Qd hR hwf (show k<=ops.size by omega)
   have hst:=(hR k _ ho).st
   have hheap:bB (R k).post.heap n=bB (R k).st.heap n:=by
    by_cases hn:n<(R k).st.next
    ·exact hs.same n hn hn fun hm=>ht (.inr hm)
    ·have hn':(R k).post.next<=n:=by
      rcases WI n (R k).post.next with q|q
      ·exact absurd (.inl ⟨by omega,q⟩) ht
      ·exact q
     rw[hs.wf hw.none n hn',hw.none n ii]
   rw[look_eq,look_eq,hst]
   simp only
   rw[hheap]
theorem pc {P:Program} {ops:Array Oper} {sup:List ft} {R:Nat->lX} (hR:∀(k:Nat) (o:Oper),ops[k]? =some o->eG P ops (Region.before ops).toList sup k o (R k) (R (k+1))) (hwf:Wf (R 0).st) {D:Nat->Bool} {n:Nat}:∀{m:Nat},m<=ops.size->(∀j,j<m->Touch (R j) n->D j=true)->gD R D m n=(R m).st.look n
 |0,_,_=>rfl
 |m+1,hm,h=>by
  rw[gD]
  by_cases ht:Touch (R m) n
  ·rw[HP ⟨h m ii ht,ht⟩]
  ·rw[TP (fun q=>ht q.2),pc hR hwf (show m<=ops.size by omega) fun j hj=>h j ii]
   have hno:∀i,m<=i->i<m+1->¬Touch (R i) n:=fun i h1 h2=>by
    have e:i=m:=by omega
    rw[e]
    exact ht
   exact(ze hR hm (show m<=m+1 by omega) hno hwf).symm
theorem sees {P:Program} {ops:Array Oper} {sup:List ft} {R:Nat->lX} (hR:∀(k:Nat) (o:Oper),ops[k]? =some o->eG P ops (Region.before ops).toList sup k o (R k) (R (k+1))) (hacc:(R 0).acc=[]) (hwf:Wf (R 0).st) (hB:yk ops (R 0).fr.n) (hlate:gP (Region.before ops).toList sup (R ops.size).acc=true) {listed:Array Bool} (hc:lJ ops listed) {k:Nat} {o:Oper} (hr:xe ops listed k o) {n:Nat} {ob:bo} (hn:(inner (Region.before ops).toList sup k (R k)).look n=some ob):
  gD R (lN listed) ops.size n=some ob:=by
 have hk:k<ops.size:=(Wl.1 hr.op).1
 obtain⟨h1,h2⟩:=cT hn
 have h1:bB (R k).st.heap n=some ob:=h1
 have hlk:(R k).st.look n=some ob:=by rw[look_eq,rh h2];exact h1
 have hw:=Qd hR hwf (show k<=ops.size by omega)
 have hlt:n<(R k).st.next:=by
  rcases WI n (R k).st.next with q|q
  ·exact q
  ·rw[hw.none n q] at h1;cases h1
 have hA:∀i,k<=i->i<ops.size->lN listed i=true->¬Touch (R i) n:=by
  intro i hki hi hd ht
  have hne:i≠k:=fun e=>by subst e;rw[hr.un] at hd;cases hd
  have hord:=sj hB hc hr (show k<i by omega) hd
  have hoi:=WL hi
  have hm:=gL hR (show k<i by omega) (show i<=ops.size by omega)
  have hns:=mz hR hr.op
  rcases ht with ht|ht
  ·omega
  ·have hmem:(⟨i,(R i).st.next,(R i).post.next,(R i).post.log⟩:ft)∈(R ops.size).acc:=(Ju hR hacc (V2 _) _).2 ⟨i,hi,rfl,.inr fun e=>by rw[e] at ht;cases ht⟩
   rcases jD hlate _ hmem n ht with h3|⟨s,h3,h4,h5⟩
   ·have:=h3 k (by show k<i;omega)
    simp only at this
    rw[hord] at this
    cases this
   ·have h4:s.j=i:=h4
    have:ck n (inner (Region.before ops).toList sup k (R k)).cE=true:=(fD ..).2 (.inl ((fm ..).2 (.inr ⟨s,h3,by omega,by rw[h4,AH];exact hord,h5,hlt⟩)))
    have h2:ck n (inner (Region.before ops).toList sup k (R k)).cE=false:=h2
    rw[h2] at this
    cases this
 have hC:∀j,j<k->Touch (R j) n->lN listed j=true:=by
  intro j hj ht
  cases hb:ordered (Region.before ops).toList j k with
  |true=>exact xS hB hc hr hj hb
  |false=>
   have:=zS hR hacc hj ii ht hb
   have h2:ck n (inner (Region.before ops).toList sup k (R k)).cE=false:=h2
   rw[h2] at this
   cases this
 rw[lj (m:=k) ii hA,pc hR hwf ii hC,hlk]
theorem ML {P:Program} {ops:Array Oper} {sup:List ft} {R:Nat->lX} (hR:∀(k:Nat) (o:Oper),ops[k]? =some o->eG P ops (Region.before ops).toList sup k o (R k) (R (k+1))) (hacc:(R 0).acc=[]) (hwf:Wf (R 0).st) {k:Nat} {o:Oper} (ho:ops[k]? =some o) {n:Nat} (ht:Touch (R k) n):(R (k+1)).st.look n=(R k).post.look n:=by
 have hs:=JT hR ho
 have hb:ck n (inner (Region.before ops).toList sup k (R k)).cE=false:=by
  rcases ht with h|h
  ·cases hb:ck n (inner (Region.before ops).toList sup k (R k)).cE with
   |false=>rfl
   |true=>
    have:n<(R k).st.next:=(wfI hR hacc hwf ho).cE n hb
    omega
  ·exact(qg hR ho h).1
 rw[look_eq,look_eq,(hR k o ho).st,hs.cE,hb]
 simp only
 rw[rh hb]
theorem NP {P:Program} {ops:Array Oper} {sup:List ft} {R:Nat->lX} (hR:∀(k:Nat) (o:Oper),ops[k]? =some o->eG P ops (Region.before ops).toList sup k o (R k) (R (k+1))) (hacc:(R 0).acc=[]) (hB:yk ops (R 0).fr.n) {listed:Array Bool} (hc:lJ ops listed) {k:Nat} {o:Oper} (hr:xe ops listed k o) {listed':Array Bool} (hk':lN listed' k=true) (hD:∀j,j≠k->lN listed' j=lN listed j) {n:Nat} (ht:Touch (R k) n):
  gD R (lN listed') ops.size n=(R (k+1)).st.look n:=by
 have hk:k<ops.size:=(Wl.1 hr.op).1
 have hA:∀i,k+1<=i->i<ops.size->lN listed' i=true->¬Touch (R i) n:=by
  intro i hki hi hd ht'
  rw[hD i ii] at hd
  have:=xr hR hacc (show k<i by omega) (WL hi) ht ht'
  rw[sj hB hc hr ii hd] at this
  cases this
 rw[lj (m:=k+1) ii hA,gD,HP ⟨hk',ht⟩]
structure Hn (D:List Deferred) (ops:Array Oper) (R:Nat->lX) (c0:Ctx) (w0:World) (listed:Array Bool) (c:Ctx) (a:Act) (w:World):Prop where
 closed:lJ ops listed
 rep:dM c (gD R (lN listed) ops.size) w
 step:Step (R 0).st.next (R ops.size).st.next c0 (R 0).st.look w0 c (gD R (lN listed) ops.size) w
 free:∀j,j<ops.size->lN listed j=false->pH c (R j).st.next (R j).post.next
 Mj:a.tmps.size=(R 0).fr.n
 defers:a.defers=D
 s9:∀(t:Nat) (s:SVal),(∀(j:Nat) (o:Oper),ops[j]? =some o->lN listed j=true->o.dst≠some t)->(R 0).fr.get t=some s->∃v,a.tmps[t]? =some v/\Den c s v
 l9:∀(j:Nat) (o:Oper) (d:Nat),ops[j]? =some o->lN listed j=true->o.dst=some d->∃v,a.tmps[d]? =some v/\Den c (R j).s v
theorem Bg {P:Program} {ops:Array Oper} {sup:List ft} {R:Nat->lX} (hR:∀(k:Nat) (o:Oper),ops[k]? =some o->eG P ops (Region.before ops).toList sup k o (R k) (R (k+1))) {t:Nat} {s:SVal}:∀{k:Nat},k<=ops.size->(R k).fr.get t=some s->(∃(j:Nat) (o:Oper),j<k/\ops[j]? =some o/\o.dst=some t/\s=(R j).s)\/((∀(j:Nat) (o:Oper),j<k->ops[j]? =some o->o.dst≠some t)/\(R 0).fr.get t=some s)
 |0,_,h=> .inr ⟨fun j o hj=>by omega,h⟩
 |k+1,hk,h=>by
  have ho:=WL (show k<ops.size by omega)
  have hp:=(hR k _ ho).put
  cases hd:ops[k].dst with
  |none=>
   rw[hd] at hp
   rw[iW hp] at h
   rcases Bg hR (show k<=ops.size by omega) h with⟨j,o,h1,h2,h3,h4⟩|⟨h1,h2⟩
   ·exact .inl ⟨j,o,by omega,h2,h3,h4⟩
   ·refine .inr ⟨fun j o hj hjo=> ?_,h2⟩
    by_cases e:j=k
    ·subst e;rw[ho] at hjo;cases hjo;rw[hd];simp
    ·exact h1 j o ii hjo
  |some d=>
   rw[hd] at hp
   obtain⟨_,_,h3⟩:=fu (gJ hp)
   rw[h3] at h
   by_cases e:t=d
   ·subst e
    rw[HP rfl] at h
    exact .inl ⟨k,ops[k],by omega,ho,hd,(Wm h).symm⟩
   ·rw[TP e] at h
    rcases Bg hR (show k<=ops.size by omega) h with⟨j,o,h1,h2,h3,h4⟩|⟨h1,h2⟩
    ·exact .inl ⟨j,o,by omega,h2,h3,h4⟩
    ·refine .inr ⟨fun j o hj hjo=> ?_,h2⟩
     by_cases e2:j=k
     ·subst e2;rw[ho] at hjo;cases hjo;rw[hd];intro q;cases q;exact e rfl
     ·exact h1 j o ii hjo
theorem knows {D:List Deferred} {P:Program} {ops:Array Oper} {sup:List ft} {R:Nat->lX} (hR:∀(k:Nat) (o:Oper),ops[k]? =some o->eG P ops (Region.before ops).toList sup k o (R k) (R (k+1))) (hB:yk ops (R 0).fr.n) {c0 c:Ctx} {w0 w:World} {listed:Array Bool} {a:Act} (hI:Hn D ops R c0 w0 listed c a w) {k:Nat} {o:Oper} (hr:xe ops listed k o):Fj c (R k).fr a (o.looksAt ops):=by
 have hk:k<ops.size:=(Wl.1 hr.op).1
 refine⟨fun t ht s hs=> ?_⟩
 rcases Bg hR (show k<=ops.size by omega) hs with⟨j,o',h1,h2,h3,rfl⟩|⟨h1,h2⟩
 ·rcases hB.dep k o hr.op t ht j o' h2 h3 with⟨_,e,he,heon,hb⟩|⟨q,_⟩
  ·exact hI.l9 j o' t h2 (heon▸hr.U8 e he hb) h3
  ·omega
 ·refine hI.s9 t s (fun j o' hj hd hdst=> ?_) h2
  rcases hB.dep k o hr.op t ht j o' hj hdst with⟨hjk,_⟩|⟨_,e,he,heon,hb⟩
  ·exact h1 j o' hjk hj hdst
  ·have:=hI.closed.dep j o' hj hd e he hb
   rw[heon,hr.un] at this
   cases this
theorem zt {D:List Deferred} {P:Program} {ops:Array Oper} {sup:List ft} {R:Nat->lX} (hR:∀(k:Nat) (o:Oper),ops[k]? =some o->eG P ops (Region.before ops).toList sup k o (R k) (R (k+1))) (hacc:(R 0).acc=[]) (hwf:Wf (R 0).st) (hB:yk ops (R 0).fr.n) (hlate:gP (Region.before ops).toList sup (R ops.size).acc=true) {c0 c c':Ctx} {w0 w w':World} {listed:Array Bool} {a:Act} {v:Value} (hI:Hn D ops R c0 w0 listed c a w) {k:Nat} {o:Oper} (hr:xe ops listed k o)
  (hg:Good (inner (Region.before ops).toList sup k (R k)) (R k).post (R k).s c w c' v w'):Hn D ops R c0 w0 (listed.setIfInBounds k true) c' (a.put o.dst v) w':=by
 have hk:k<ops.size:=(Wl.1 hr.op).1
 have hkl:k<listed.size:=by rw[hI.closed.size];exact hk
 have hset:lN (listed.setIfInBounds k true) k=true:=by simp[lN,hkl]
 have hne:∀j,j≠k->lN (listed.setIfInBounds k true) j=lN listed j:=fun j hj=>getD_set_ne false (XF hj)
 have hdone:∀j,lN (listed.setIfInBounds k true) j=true->j=k\/lN listed j=true:=fun j hj=>by
  by_cases e:j=k
  ·exact .inl e
  ·rw[hne j e] at hj;exact .inr hj
 have hs:=JT hR hr.op
 have hns:=mz hR hr.op
 have hw:=wfI hR hacc hwf hr.op
 obtain⟨h1,h2⟩:=GB (Touch (R k)) hI.rep (fun n ob hn=>sees hR hacc hwf hB hlate hI.closed hr hn) hg.rep hg.step (H':=gD R (lN (listed.setIfInBounds k true)) ops.size)
  (fun n hn=>by rw[NP hR hacc hB hI.closed hr hset hne hn,ML hR hacc hwf hr.op hn]) (fun n hn=>yS hne hn _)
  (fun n hn=>by
   have hheap:bB (R k).post.heap n=bB (inner (Region.before ops).toList sup k (R k)).heap n:=by
    by_cases hlt:n<(R k).st.next
    ·exact hs.same n hlt hlt fun hm=>hn (.inr hm)
    ·have hn':(R k).post.next<=n:=by
      rcases WI n (R k).post.next with q|q
      ·exact absurd (.inl ⟨by omega,q⟩) hn
      ·exact q
     rw[hs.wf hw.none n hn',hw.none n (by show(R k).st.next<=n;omega)]
   rw[look_eq,look_eq,hs.cE,hheap])
 have hlo:(R 0).st.next<=(inner (Region.before ops).toList sup k (R k)).next:=(r8 hR (show k<=ops.size by omega) (Wd _)).next
 have hhi:(R k).post.next<=(R ops.size).st.next:=gL hR hk (V2 _)
 have hstep:=hI.step.trans' (h2.wide hlo hhi)
 have hle:=hg.step.le
 refine⟨⟨by simp[hI.closed.size],fun j o' hj hd e he hb=> ?_⟩,h1,hstep,fun j hj hd=> ?_,by cases o.dst<;>simp[Act.put,hI.Mj],by cases o.dst<;>exact hI.defers,fun t s ht hs'=> ?_,fun j o' d hj hd hdst=> ?_⟩
 ·rcases hdone j hd with rfl|hd'
  ·rw[hr.op] at hj
   cases hj
   have:=hr.U8 e he hb
   by_cases q:e.on=j
   ·rw[q];exact hset
   ·rw[hne _ q];exact this
  ·have:=hI.closed.dep j o' hj hd' e he hb
   by_cases q:e.on=k
   ·rw[q];exact hset
   ·rw[hne _ q];exact this
 ·have hjk:j≠k:=fun e=>by subst e;rw[hset] at hd;cases hd
  rw[hne j hjk] at hd
  intro n hn hn'
  refine hg.step.off n ?_ (hI.free j hj hd n hn hn')
  show n<(R k).st.next\/(R k).post.next<=n
  rcases WI j k with q|q
  ·have:=gL hR q (show k<=ops.size by omega);omega
  ·have:=gL hR (show k<j by omega) (show j<=ops.size by omega);omega
 ·obtain⟨v',h3,h4⟩:=hI.s9 t s (fun j o' hj hd hdst=>by
   refine ht j o' hj ?_ hdst
   by_cases e:j=k
   ·subst e;exact hset
   ·rw[hne j e];exact hd) hs'
  refine⟨v',?_,Den.le hle _ _ h4⟩
  cases hdst:o.dst with
  |none=>exact h3
  |some d=>
   have:d≠t:=fun e=>ht k o hr.op hset (by rw[hdst,e])
   simp[Act.put,Xw this,h3]
 ·rcases hdone j hd with rfl|hd'
  ·rw[hr.op] at hj
   cases hj
   have hb:=hB.bound j o hr.op d hdst
   exact⟨v,by rw[hdst];simp[Act.put,hI.Mj,hb],hg.val⟩
  ·obtain⟨v',h3,h4⟩:=hI.l9 j o' d hj hd' hdst
   refine⟨v',?_,Den.le hle _ _ h4⟩
   cases hdst2:o.dst with
   |none=>exact h3
   |some d2=>
    have:d2≠d:=fun e=>by
     have:=hB.dist j o' hj k o hr.op (by rw[hdst];simp) (by rw[hdst,hdst2,e])
     subst this
     rw[hr.un] at hd'
     cases hd'
    simp[Act.put,Xw this,h3]
theorem dM.mono {c:Ctx} {G H:gy} {w:World} (h:dM c H w) (hs:∀n o,G n=some o->H n=some o):dM c G w:=
 ⟨fun k o hk=>h.dO k o (hs k o hk),fun k j o o' l l' r hk hj=>h.sep k j o o' l l' r (hs _ _ hk) (hs _ _ hj),h.fz⟩
theorem count_set (l:Array Bool) (i:Nat) (h:l.getD i true=false):(l.setIfInBounds i true).toList.count false+1=l.toList.count false:=by
 have hi:i<l.size:=by
  rcases WI i l.size with h'|h'
  ·exact h'
  ·simp[Array.getD,Nat.not_lt.2 h'] at h
 have hv:l[i]=false:=by simpa[hi] using h
 rw[Array.toList_setIfInBounds,List.count_set (by simpa using hi)]
 have hm:0<l.toList.count false:=List.count_pos_iff.2 (by rw[<-hv];simp)
 have h1:(l.toList[i]==false)=true:=by simp[hv]
 have h2:(true==false)=false:=rfl
 rw[h1,h2]
 simp only[Yk,Xm,X6]
 omega
theorem tM {l:Array Bool} {j:Nat} (hj:j<l.size):l.getD j true=l.getD j false:=by simp[hj]
theorem mE {l:Array Bool} {j:Nat} (h:l.getD j true=false):j<l.size:=by
 rcases WI j l.size with h'|h'
 ·exact h'
 ·simp[Array.getD,Nat.not_lt.2 h'] at h
theorem Sc {D:List Deferred} {ro:Option Nat} {P:Program} {ops:Array Oper} {sup:List ft} {R:Nat->lX} (hR:∀(k:Nat) (o:Oper),ops[k]? =some o->eG P ops (Region.before ops).toList sup k o (R k) (R (k+1))) (hacc:(R 0).acc=[]) (hwf:Wf (R 0).st) (hB:yk ops (R 0).fr.n) (hlate:gP (Region.before ops).toList sup (R ops.size).acc=true) {c0 c:Ctx} {w0 w:World} {listed:Array Bool} {a:Act} (hI:Hn D ops R c0 w0 listed c a w) {k:Nat} {o:Oper} (hr:xe ops listed k o) {Q:Exit->Act->World->Prop} {K:Act->World->Prop}
  (hK:∀c' a' w',Hn D ops R c0 w0 (listed.setIfInBounds k true) c' a' w'->K a' w'):wpOpIn (jd ro) 0 P ops Q k K a w:=by
 have hk:k<ops.size:=(Wl.1 hr.op).1
 have h:=hR k o hr.op
 have kn:=knows hR hB hI hr
 have hrep:dM c (inner (Region.before ops).toList sup k (R k)).look w:=hI.rep.mono fun n ob hn=>sees hR hacc hwf hB hlate hI.closed hr hn
 unfold wpOpIn
 rw[hr.op]
 simp only
 rw[kn.want h.want]
 cases hb:(R k).b with
 |false=>
  obtain⟨h1,h2⟩:=h.not hb
  refine⟨fun _ _=>trivial,hK c _ _ (zt hR hacc hwf hB hlate hI hr ?_)⟩
  rw[h1,h2]
  exact⟨⟨[],rfl,rfl⟩,hrep,Step.refl _ _ _ _⟩
 |true=>
  exact(h.run hb).wp ro ((h.run hb).ok hrep (wfI hR hacc hwf hr.op) (hI.free k hk hr.un) kn.eval a K Q fun c' v w' hg=>hK c' _ _ (zt hR hacc hwf hB hlate hI hr hg))
theorem Sb {D:List Deferred} {ro:Option Nat} {P:Program} {ops:Array Oper} {sup:List ft} {R:Nat->lX} (hR:∀(k:Nat) (o:Oper),ops[k]? =some o->eG P ops (Region.before ops).toList sup k o (R k) (R (k+1))) (hacc:(R 0).acc=[]) (hwf:Wf (R 0).st) (hB:yk ops (R 0).fr.n) (hlate:gP (Region.before ops).toList sup (R ops.size).acc=true) {c0:Ctx} {w0:World} {Q:Exit->Act->World->Prop}
  (hQ:∀c' a' w',lI D c' (R ops.size).fr a'->dM c' (R ops.size).st.look w'->Step (R 0).st.next (R ops.size).st.next c0 (R 0).st.look w0 c' (R ops.size).st.look w'->Q .normal a' w'):
  ∀(fuel:Nat) (listed:Array Bool) (c:Ctx) (a:Act) (w:World),listed.toList.count false=fuel->Hn D ops R c0 w0 listed c a w->wpAnyIn (jd ro) 0 P .any ops Q fuel listed a w:=by
 have done:∀(listed:Array Bool) (c:Ctx) (a:Act) (w:World),Hn D ops R c0 w0 listed c a w->(∀k,k<ops.size->lN listed k=true)->Q .normal a w:=by
  intro listed c a w hI hall
  have hlk:gD R (lN listed) ops.size=(R ops.size).st.look:=funext fun n=>pc hR hwf (V2 _) fun j hj _=>hall j hj
  have hrep:=hI.rep
  have hst:=hI.step
  rw[hlk] at hrep hst
  have frn:∀k,k<=ops.size->(R k).fr.n=(R 0).fr.n:=by
   intro k
   induction k with
   |zero=>intro _;rfl
   |succ k ih=>
    intro hk
    have hp:=(hR k _ (WL (show k<ops.size by omega))).put
    rw[<-ih ii]
    cases hd:ops[k].dst with
    |none=>rw[hd] at hp;rw[iW hp]
    |some d=>rw[hd] at hp;exact(fu (gJ hp)).2.1
  refine hQ c a w ⟨by rw[hI.Mj,frn _ (V2 _)],fun t s hs=> ?_,hI.defers⟩ hrep hst
  rcases Bg hR (V2 _) hs with⟨j,o,h1,h2,h3,rfl⟩|⟨h1,h2⟩
  ·exact hI.l9 j o t h2 (hall j h1) h3
  ·exact hI.s9 t s (fun j o hj _=>h1 j o (Wl.1 hj).1 hj) h2
 intro fuel
 induction fuel with
 |zero=>
  intro listed c a w hc hI
  have hall:∀k,k<ops.size->lN listed k=true:=by
   intro k hk
   have hks:k<listed.size:=by rw[hI.closed.size];exact hk
   cases hv:listed.getD k false with
   |true=>exact hv
   |false=>
    have:=count_set listed k (by rw[tM hks];exact hv)
    omega
  refine⟨List.eq_nil_iff_forall_not_mem.2 fun i hi=> ?_,done listed c a w hI hall⟩
  have h1:=(mem_ready.1 hi).1
  have h2:=mE h1
  have:=hall i (by rw[<-hI.closed.size];exact h2)
  rw[lN,<-tM h2,h1] at this
  cases this
 |succ fuel ih=>
  intro listed c a w hc hI
  refine⟨fun hr=> ?_,fun i hi=> ?_⟩
  ·refine done listed c a w hI fun k=> ?_
   induction k using Nat.strongRecOn with
   |_ k ihk=>
    intro hk
    cases hv:listed.getD k false with
    |true=>exact hv
    |false=>
     exfalso
     have ho:=WL hk
     have hks:k<listed.size:=by rw[hI.closed.size];exact hk
     have:k∈Region.ready .any ops listed:=mem_ready.2 ⟨by rw[tM hks];exact hv,_,ho,fun e he hb=>by
      have hlt:=hB.down k _ ho e he hb
      exact ihk e.on hlt ii⟩
     rw[hr] at this
     cases this
  ·obtain⟨hun,o,ho,hdeps⟩:=mem_ready.1 hi
   have hin:i<listed.size:=mE hun
   refine Sc hR hacc hwf hB hlate hI ⟨ho,by rw[lN,<-tM hin];exact hun,hdeps⟩ fun c' a' w' hI'=> ?_
   refine ih _ c' a' w' ?_ hI'
   have:=count_set listed i hun
   omega
def Td (P:Program) (ops:Array Oper) (fr:Fr) (st:St) (fr':Fr) (st':St):Prop:=
 eS st st'/\fr'.n=fr.n/\∀{ro:Option Nat} {D:List Deferred} {c:Ctx} {w:World} {a:Act} (id:Nat),dM c st.look w->Wf st->pH c st.next st'.next->lI D c fr a->∀{Q:Exit->Act->World->Prop},
  (∀c' a' w',lI D c' fr' a'->dM c' st'.look w'->Step st.next st'.next c st.look w c' st'.look w'->Q .normal a' w')->(Code.region id ops true).wpIn (jd ro) 0 P Q a w
theorem OE {P:Program} (hmix:P.follows .mixedOrders=true) {ops:Array Oper} {sup:List ft} {fr fr':Fr} {st st':St} {acc':List ft} (h:gz P ops (Region.before ops).toList sup ops.toList 0 fr st [] fr' st' acc') (hrel:Kd ops.toList fr.n=true)
  (hl:gP (Region.before ops).toList sup acc'=true):Td P ops fr st fr' st':=by
 obtain⟨R,h1,h2,h3,⟨h4,h6,h7⟩,h5⟩:=Mk h
 have hR:∀(k:Nat) (o:Oper),ops[k]? =some o->eG P ops (Region.before ops).toList sup k o (R k) (R (k+1)):=fun k o hk=>by
  have:=h5 k o (by simpa using hk)
  rw[WU] at this
  exact this
 have e:0+ops.toList.length=ops.size:=by simp
 rw[e] at h4 h6 h7
 subst h1 h2 h4 h6 h7
 have frn:∀k,k<=ops.size->(R k).fr.n=(R 0).fr.n:=by
  intro k
  induction k with
  |zero=>intro _;rfl
  |succ k ih=>
   intro hk
   have hp:=(hR k _ (WL (show k<ops.size by omega))).put
   rw[<-ih ii]
   cases hd:ops[k].dst with
   |none=>rw[hd] at hp;rw[iW hp]
   |some d=>rw[hd] at hp;exact(fu (gJ hp)).2.1
 refine⟨r8 hR (V2 _) (Wd _),frn _ (V2 _),fun{ro D c w a} id hr hwf hf hfr Q hQ=> ?_⟩
 have hB:=Kc hrel
 have none:∀k,lN (Array.replicate ops.size false) k=true->False:=fun k hk=>by
  unfold lN at hk
  rw[W0,Array.getElem?_replicate] at hk
  split at hk<;>cases hk
 have hlk:gD R (lN (Array.replicate ops.size false)) ops.size=(R 0).st.look:=funext fun n=>by
  rw[lj (m:=0) (Wd _) fun i _ _ hd=>(none i hd).elim]
  rfl
 have hr':dM c (R 0).st.look {w with drawn:=w.drawn+1}:=hr.draw _
 refine wpIn_region_any hmix (Sb hR h3 hwf hB hl (c0:=c) (w0:={w with drawn:=w.drawn+1}) (fun c' a' w' k1 k2 k3=> ?_) ops.size _ c a _ (by simp) ⟨⟨by simp,fun j o hj hd=>(none j hd).elim⟩,by rw[hlk];exact hr',by
  rw[hlk]
  exact(Step.refl (R 0).st.next c _ _).wide (V2 _) (r8 hR (V2 _) (Wd _)).next,fun j hj _=> ?_,hfr.size,hfr.defers,fun t s _ hs=>hfr.get t s hs,fun j o d hj hd=>(none j hd).elim⟩)
 ·exact hQ c' a' w' k1 k2 (((Step.drawn (R 0).st.next c _ w _).wide (V2 _) (r8 hR (V2 _) (Wd _)).next).trans' k3)
 ·exact hf.mono (r8 hR (show j<=ops.size by omega) (Wd _)).next (gL hR hj (V2 _))
def DrawW (P:Program) (ops:Array Oper) (before:List Nat) (sup:List ft) (l:List Oper) (k:Nat) (fr:Fr) (st:St) (acc:List ft) (Φ:Fr->St->List ft->Prop):Prop:=∃fr' st' acc',gz P ops before sup l k fr st acc fr' st' acc'/\Φ fr' st' acc'
section
variable {P:Program} {ops:Array Oper} {before:List Nat} {sup:List ft} {l:List Oper} {o:Oper} {k:Nat} {fr fr1:Fr} {st st1:St} {acc:List ft} {s:SVal} {Φ:Fr->St->List ft->Prop}
end
inductive Ex where
 |normal
 |exit (id:Nat)
 |ret
def Ao:Ex->Exit
 | .normal=> .normal
 | .exit id=> .exit id
 | .ret=> .ret
def rp (b:Nat):Deferred:={target:= .collected b,args:= #[]}
def L1 (B:Nat) (D:List Deferred) (w:World):Prop:=∃bs:List Nat,D=bs.map rp/\bs.Nodup/\∀b∈bs,B<=b/\w.heap[b]? =some (.deferred (some []))
theorem L1.nil (B:Nat) (w:World):L1 B [] w:=⟨[],rfl,List.nodup_nil,fun b hb=>(by cases hb)⟩
theorem su {c:Ctx} {o:bo} {l:Loc} {w:World} (h:eT c o l w) {b:Nat} (hb:iO l=some b):∃x,w.heap[b]? =some x/\∀y,x≠.deferred y:=by
 cases o with
 |cells cs=>cases l with
  |row=>exact h.elim
  |box b=>cases hb;obtain⟨arr,e,h1,_⟩:=h;exact⟨_,h1,fun y h=>by cases h⟩
 |still cs=>cases l with
  |row=>exact h.elim
  |box b=>cases hb;obtain⟨arr,e,h1,_⟩:=h;exact⟨_,h1,fun y h=>by cases h⟩
 |row m rows s froz=>cases l with
  |box b=>exact h.elim
  |row ob st sz u=>cases hb;obtain⟨_,_,arr,e,cap,h1⟩:=h;exact⟨_,h1.cells,fun y h=>by cases h⟩
 |map es=>cases l with
  |row=>exact h.elim
  |box b=>cases hb;obtain⟨ents,clock,h1,_⟩:=h;exact⟨_,h1,fun y h=>by cases h⟩
 |loop r=>cases l with
  |row=>exact h.elim
  |box b=>cases hb;obtain⟨x,h1,_⟩:=h;exact⟨_,h1,fun y h=>by cases h⟩
 |lU g cs=>cases l with
  |box=>exact h.elim
  |row ob st sz u=>obtain⟨h0,_,arr,e,f,_,h1,_⟩:=h;subst h0;cases hb;exact⟨_,h1,fun y h=>by cases h⟩
theorem Dh {c:Ctx} {H:gy} {w:World} (hr:dM c H w) {b:Nat} {x:Option (List Deferred)} (h:w.heap[b]? =some (.deferred x)):¬fU c H b:=by
 rintro⟨k,o,l,h1,h2,h3⟩
 obtain⟨l',h5,h6⟩:=hr.dO k o h1
 rw[h2] at h5
 cases h5
 obtain⟨y,h7,h8⟩:=su h6 h3
 rw[h] at h7
 cases h7
 exact h8 x rfl
theorem L1.kept {B:Nat} {D:List Deferred} {w w':World} (h:L1 B D w) (hk:∀(b:Nat) (x:Option (List Deferred)),w.heap[b]? =some (.deferred x)->w'.heap[b]? =w.heap[b]?):L1 B D w':=
 let⟨bs,h1,h2,h3⟩:=h
 ⟨bs,h1,h2,fun b hb=>⟨(h3 b hb).1,(hk b _ (h3 b hb).2).trans (h3 b hb).2⟩⟩
structure eA (lo:Nat) (c:Ctx) (H:gy) (w:World) (c':Ctx) (H':gy) (w':World):Prop where
 le:∀k l,k<lo->c.ρ k=some l->∃l',c'.ρ k=some l'/\dJ l l'
 fz:∀b i v,c.fz b i=some v->c'.fz b i=some v
 off:∀k,k<lo->c.ρ k=none->c'.ρ k=none
 hid:∀k l,k<lo->H k=none->c.ρ k=some l->H' k=none/\c'.ρ k=some l
 os:w'.os=w.os
 tape:w'.tape=w.tape
 output:w'.output=w.output
 size:w.heap.size<=w'.heap.size
 kept:∀r,r<w.heap.size->¬fU c H r->w'.heap[r]? =w.heap[r]?
 owns:∀r,fU c' H' r->fU c H r\/w.heap.size<=r
 xV:∀b i v,c'.fz b i=some v->c.fz b i=some v\/fU c H b\/w.heap.size<=b
theorem eA.refl (lo:Nat) (c:Ctx) (H:gy) (w:World):eA lo c H w c H w:=
 ⟨fun _ l _ h=>⟨l,h,dJ.refl l⟩,fun _ _ _ h=>h,fun _ _ h=>h,fun _ _ _ h h'=>⟨h,h'⟩,rfl,rfl,rfl,V2 _,fun _ _ _=>rfl,fun _ h=> .inl h,fun _ _ _ h=> .inl h⟩
theorem eA.trans {lo:Nat} {c c1 c2:Ctx} {H H1 H2:gy} {w w1 w2:World} (h:eA lo c H w c1 H1 w1) (k:eA lo c1 H1 w1 c2 H2 w2):eA lo c H w c2 H2 w2 where
 le:=fun n l hn e=>let⟨l1,h1,h2⟩:=h.le n l hn e;let⟨l2,h3,h4⟩:=k.le n l1 hn h1;⟨l2,h3,h2.trans h4⟩
 fz:=fun b i v e=>k.fz b i v (h.fz b i v e)
 off:=fun n hn e=>k.off n hn (h.off n hn e)
 hid:=fun n l hn e e'=>let⟨h1,h2⟩:=h.hid n l hn e e';k.hid n l hn h1 h2
 os:=k.os.trans h.os
 tape:=k.tape.trans h.tape
 output:=k.output.trans h.output
 size:=Wq h.size k.size
 kept:=fun r hr hn=>(k.kept r (Xe hr h.size) fun ho=>(h.owns r ho).elim hn (fun h'=>by omega)).trans (h.kept r hr hn)
 owns:=fun r ho=>(k.owns r ho).elim (h.owns r) (fun h'=> .inr (Wq h.size h'))
 xV:=fun b i v e=>by
  rcases k.xV b i v e with h1|h1|h1
  ·exact h.xV b i v h1
  ·exact .inr (h.owns b h1)
  ·exact .inr (.inr (Wq h.size h1))
theorem Step.c {lo a b:Nat} {c c':Ctx} {H H':gy} {w w':World} (h:Step a b c H w c' H' w') (hlo:lo<=a):eA lo c H w c' H' w':=
 ⟨fun k l _ e=>h.le.ρ k l e,h.le.fz,fun k hk e=>h.off k ii e,fun k l _ e e'=>h.hid k l e e',h.os,h.tape,h.output,h.size,h.kept,h.owns,h.xV⟩
theorem L1.step {B:Nat} {D:List Deferred} {lo:Nat} {c c':Ctx} {H H':gy} {w w':World} (h:L1 B D w) (hr:dM c H w) (hs:eA lo c H w c' H' w'):L1 B D w':=
 h.kept fun b _ hb=>hs.kept b (Wl.1 hb).1 (Dh hr hb)
structure rX (lo:Nat) (st st':St):Prop where
 cE:st'.cE=st.cE
 mark:st'.mark=st.mark
 log:∀n∈st.log,n∈st'.log
 same:∀k,k<lo->k<st.mark->k∉st'.log->bB st'.heap k=bB st.heap k
 LQ:∀n∈st'.log,n∈st.log\/(ck n st.cE=false/\n<st.mark)
theorem rX.refl (lo:Nat) (st:St):rX lo st st:=⟨rfl,rfl,fun _ h=>h,fun _ _ _ _=>rfl,fun _ h=> .inl h⟩
theorem rX.trans {lo:Nat} {a b c:St} (h:rX lo a b) (k:rX lo b c):rX lo a c:=
 ⟨k.cE.trans h.cE,k.mark.trans h.mark,fun n hn=>k.log n (h.log n hn),fun n h1 h2 h3=>(k.same n h1 (h.mark▸h2) h3).trans (h.same n h1 h2 fun e=>h3 (k.log n e)),
  fun n hn=>(k.LQ n hn).elim (h.LQ n) (fun hb=> .inr ⟨h.cE▸hb.1,h.mark▸hb.2⟩)⟩
theorem eS.c {lo:Nat} {st st':St} (h:eS st st') (hlo:lo<=st.next):rX lo st st':=⟨h.cE,h.mark,h.log,fun k h1 h2 h3=>h.same k ii h2 h3,h.LQ⟩
structure S9 (lo:Nat) (D:List Deferred) (B:Nat) (c:Ctx) (fr:Fr) (st:St) (a:Act) (w:World):Prop where
 rep:dM c st.look w
 wf:Wf st
 yb:∀k,st.next<=k->c.ρ k=none
 fr:lI D c fr a
 Gl:L1 B D w
 base:B<=w.heap.size
 low:lo<=st.next
 mark:st.mark<=lo
def mZ (ro:Option Nat) (P:Program) (c:Code) (Q:Exit->Act->World->Prop) (a:Act) (w:World):Prop:=
 ∀(b:Frame) (k:List Item) (cs:List Frame),b.roundOf=(jd ro).round->(jd ro).fn b.fn->(jd ro).room (cs.length+1+0)->
  ∃e a' w',Q e a' w'/\ArrivesIn (Machine.fenced P (jd ro)) P (lone (b.atR a (.code c:: .inLoop c::k)) cs w) b k cs e a' w'
theorem mZ.wp {ro:Option Nat} {P:Program} {c:Code} {Q:Exit->Act->World->Prop} {a:Act} {w:World} (h:mZ ro P c Q a w):(Code.loop c).wpIn (jd ro) 0 P Q a w:=fun b k cs hro hb hr=>
 let⟨e,a',w',hq,harr⟩:=h b k cs hro hb hr
 ⟨e,a',w',hq,.of_steps (.one (fenced_calm hb hr rfl) stepR_loop) harr⟩
theorem mZ.turn {ro:Option Nat} {P:Program} {c:Code} {Q:Exit->Act->World->Prop} {a:Act} {w:World} (h:c.wpIn (jd ro) 0 P (Exit.then (mZ ro P c Q) Q) a w):mZ ro P c Q a w:=by
 intro b k cs hro hb hr
 obtain⟨e,a₁,w₁,hq,harr⟩:=h b (.inLoop c::k) cs hro hb hr
 cases e with
 |normal=>
  obtain⟨e₂,a₂,w₂,hq₂,harr₂⟩:=hq b k cs hro hb hr
  exact⟨e₂,a₂,w₂,hq₂,.of_steps (StepsIn.trans harr (.one (fenced_calm hb hr rfl) stepR_inLoop)) harr₂⟩
 |exit id=>exact⟨_,a₁,w₁,hq,.pass (x:= .inLoop c) rfl (fun _ _=> .inl (by simp)) harr⟩
 |goto l=>exact⟨_,a₁,w₁,hq,.pass (x:= .inLoop c) rfl (fun _ _=> .inl (by simp)) harr⟩
 |ret=>exact⟨_,a₁,w₁,hq,.pass (x:= .inLoop c) rfl (fun _ _=> .inl (by simp)) harr⟩
 |panic ch=>exact⟨_,a₁,w₁,hq,.pass (x:= .inLoop c) rfl (fun _ _=> .inl (by simp)) harr⟩
 |outgrown=>exact⟨_,a₁,w₁,hq,.pass (x:= .inLoop c) rfl (fun _ _=> .inl (by simp)) harr⟩
section
variable {P:Program} {F:Fence} {n:Nat} {b:Frame} {a:Act} {k:List Item} {cs:List Frame} {w:World} {Q:Exit->Act->World->Prop}
theorem fM {c:Code}:step P (lone (b.atR a (.code (.scope c)::k)) cs w)= .next (lone (b.atR a (.code c:: .inScope c::k)) cs w):=
 step_lone_go (by simp[stepG,stepG.exec,Frame.atR])
theorem xu {c:Code}:step P (lone (b.atR a (.inScope c::k)) cs w)= .next (lone (b.atR a k) cs w):=
 step_lone_go (by simp[stepG,stepG.exec,Frame.atR])
theorem FH {c:Code} (h:c.wpIn F n P (Exit.noGoto Q) a w):(Code.scope c).wpIn F n P Q a w:=by
 intro b k cs hro hb hr
 have h0:(lone (b.atR a (.code (.scope c)::k)) cs w).fenced P F:=fenced_calm hb hr rfl
 obtain⟨e,a₁,w₁,hq,harr⟩:=h b (.inScope c::k) cs hro hb hr
 cases e with
 |normal=>exact⟨.normal,a₁,w₁,hq,.head h0 fM (StepsIn.trans harr (.one (fenced_calm hb hr rfl) xu))⟩
 |exit id=>
  exact⟨.exit id,a₁,w₁,hq,fun k' hk=> .head h0 fM (harr.1 k' (by simp[exitTo,hk])),fun hr' hk=>
   let⟨k₁,h1,h2⟩:=harr.2 hr' (by simp[exitTo,hk])
   ⟨k₁,h1,.head h0 fM h2⟩⟩
 |goto l=>exact hq.elim
 |ret=>exact⟨_,a₁,w₁,hq,.of_steps (.one h0 fM) harr⟩
 |panic ch=>exact⟨_,a₁,w₁,hq,.of_steps (.one h0 fM) harr⟩
 |outgrown=>exact⟨_,a₁,w₁,hq,.of_steps (.one h0 fM) harr⟩
end
def WP (ro:Option Nat) (P:Program) (c:Code) (Q:Exit->Act->World->Prop) (a:Act) (w:World):Prop:=
 match c with
 | .loop c=>mZ ro P c Q a w
 |c=>c.wpIn (jd ro) 0 P Q a w
theorem WP.wp {ro:Option Nat} {P:Program} {c:Code} {Q:Exit->Act->World->Prop} {a:Act} {w:World} (h:WP ro P c Q a w):c.wpIn (jd ro) 0 P Q a w:=by
 cases c with
 |loop c=>exact mZ.wp h
 |_=>exact h
def Fin (lo B:Nat) (c:Ctx) (st:St) (w:World) (n:Nat) (Φ:Ex->Fr->St->Prop) (Q:Exit->Act->World->Prop):Prop:=
 ∀x fr' st' D' c' a' w',Φ x fr' st'->S9 lo D' B c' fr' st' a' w'->eA lo c st.look w c' st'.look w'->rX lo st st'->fr'.n=n->Q (Ao x) a' w'
def W (P:Program) (lo:Nat) (z:Code) (fr:Fr) (st:St) (Φ:Ex->Fr->St->Prop):Prop:=
 ∀{ro:Option Nat} {B:Nat} {D:List Deferred} {c:Ctx} {w:World} {a:Act},S9 lo D B c fr st a w->(ro=none\/jB z=true)->∀{Q:Exit->Act->World->Prop},Fin lo B c st w fr.n Φ Q->WP ro P z Q a w
theorem Fin.trans {lo B n n2:Nat} {c c2:Ctx} {st st2:St} {w w2:World} {Φ:Ex->Fr->St->Prop} {Q:Exit->Act->World->Prop} (h:Fin lo B c st w n Φ Q) (hs:eA lo c st.look w c2 st2.look w2) (ht:rX lo st st2) (hn:n2=n):Fin lo B c2 st2 w2 n2 Φ Q:=
 fun x fr' st' D' c' a' w' h1 h2 h3 h4 h5=>h x fr' st' D' c' a' w' h1 h2 (hs.trans h3) (ht.trans h4) (h5.trans hn)
theorem Fin.mono {lo B n:Nat} {c:Ctx} {st:St} {w:World} {Φ Ψ:Ex->Fr->St->Prop} {Q R:Exit->Act->World->Prop} (h:Fin lo B c st w n Φ Q) (hw:∀x fr' st',Ψ x fr' st'->Φ x fr' st') (hq:∀x a w,Q (Ao x) a w->R (Ao x) a w):Fin lo B c st w n Ψ R:=
 fun x fr' st' D' c' a' w' h1 h2 h3 h4 h5=>hq _ _ _ (h x fr' st' D' c' a' w' (hw _ _ _ h1) h2 h3 h4 h5)
theorem pP {a b:Bool} (h: @Bool.rec (fun _=>Bool) false b a=true):a=true/\b=true:=by
 cases a with
 |false=>cases h
 |true=>exact⟨rfl,h⟩
section
variable {P:Program} {lo:Nat} {fr:Fr} {st:St} {Φ Ψ:Ex->Fr->St->Prop}
theorem W.mono {z:Code} (h:W P lo z fr st Ψ) (hw:∀x fr' st',Ψ x fr' st'->Φ x fr' st'):W P lo z fr st Φ:=fun he hr _ hq=>h he hr (hq.mono hw fun _ _ _ h=>h)
theorem Fin.here {B n:Nat} {c:Ctx} {w:World} {Q:Exit->Act->World->Prop} {D:List Deferred} {a:Act} {x:Ex} (hq:Fin lo B c st w n Φ Q) (he:S9 lo D B c fr st a w) (hn:fr.n=n) (h:Φ x fr st):Q (Ao x) a w:=hq x fr st D c a w h he (eA.refl _ _ _ _) (rX.refl _ _) hn
theorem W.skip (h:Φ .normal fr st):W P lo .skip fr st Φ:=fun he _ _ hq=>wpIn_skip (hq.here he rfl h)
theorem W.label {l:Nat} (h:Φ .normal fr st):W P lo (.label l) fr st Φ:=fun he _ _ hq=>wpIn_label (hq.here he rfl h)
theorem W.exit {id:Nat} (h:Φ (.exit id) fr st):W P lo (.exit id) fr st Φ:=fun he _ _ hq=>wpIn_exit (hq.here he rfl h)
theorem W.ret (h:Φ .ret fr st):W P lo .ret fr st Φ:=fun he _ _ hq=>wpIn_ret (hq.here he rfl h)
theorem W.ops {id:Nat} {ops:Array Oper} (h:xh P ops ops.toList fr st (Φ .normal)):W P lo (.region id ops false) fr st Φ:=by
 intro ro B D c w a he _ Q hq
 obtain⟨fr',st',⟨h1,h2,h3⟩,h4⟩:=h
 refine wpIn_region_list (h3 he.rep he.wf (fun k hk _=>he.yb k hk) he.fr fun c' a' w' c1 c2 c3=> ?_)
 have hs:eA lo c st.look w c' st'.look w':=c3.c he.low
 refine hq .normal fr' st' D c' a' w' h4 ⟨c2,he.wf.eX h1,fun k hk=>c3.off k (.inr hk) (he.yb k (Wq h1.next hk)),c1,he.Gl.step he.rep hs,Wq he.base hs.size,Wq he.low h1.next,by rw[h1.mark];exact he.mark⟩ hs (h1.c he.low) h2
theorem W.draw' {id:Nat} {ops:Array Oper} (hmix:P.follows .mixedOrders=true) (sup:List ft) (hrel:Kd ops.toList fr.n=true) (h:DrawW P ops (Region.before ops).toList sup ops.toList 0 fr st [] fun fr' st' acc=>gP (Region.before ops).toList sup acc=true/\Φ .normal fr' st'):W P lo (.region id ops true) fr st Φ:=by
 intro ro B D c w a he _ Q hq
 obtain⟨fr',st',acc',h0,hl,h4⟩:=h
 obtain⟨h1,h2,h3⟩:=OE hmix h0 hrel hl
 refine h3 id he.rep he.wf (fun k hk _=>he.yb k hk) he.fr fun c' a' w' c1 c2 c3=> ?_
 have hs:eA lo c st.look w c' st'.look w':=c3.c he.low
 refine hq .normal fr' st' D c' a' w' h4 ⟨c2,he.wf.eX h1,fun k hk=>c3.off k (.inr hk) (he.yb k (Wq h1.next hk)),c1,he.Gl.step he.rep hs,Wq he.base hs.size,Wq he.low h1.next,by rw[h1.mark];exact he.mark⟩ hs (h1.c he.low) h2
def VD (P:Program) (lo:Nat) (y:Code) (Φ:Ex->Fr->St->Prop):Ex->Fr->St->Prop
 | .normal,fr,st=>W P lo y fr st Φ
 |x,fr,st=>Φ x fr st
theorem Cm {y:Code} {ro:Option Nat} {B:Nat} {c:Ctx} {w:World} {Q:Exit->Act->World->Prop} {n:Nat} (hy:ro=none\/jB y=true) (hq:Fin lo B c st w n Φ Q):Fin lo B c st w n (VD P lo y Φ) (Exit.then (WP ro P y Q) Q):=by
 intro e fr' st' D' c' a' w' h1 h2 h3 h4 h5
 cases e with
 |normal=>exact h1 h2 hy (hq.trans h3 h4 h5)
 |exit id=>exact hq _ _ _ _ _ _ _ h1 h2 h3 h4 h5
 |ret=>exact hq _ _ _ _ _ _ _ h1 h2 h3 h4 h5
theorem W.seq {x y:Code} (h:W P lo x fr st (VD P lo y Φ)):W P lo (.seq x y) fr st Φ:=by
 intro ro B D c w a he hr Q hq
 have hx:=hr.imp id fun h=>(pP h).1
 have hy:=hr.imp id fun h=>(pP h).2
 refine wpIn_seq (wpIn_mono (h he hx (Cm hy hq)).wp fun e a w hq=>by cases e<;>first|exact WP.wp hq|exact hq)
theorem W.cond {x:Operand} {y z:Code} {b:Bool} (hx:Fw fr x=some (.bool b)) (h1:b=true->W P lo y fr st Φ) (h2:b=false->W P lo z fr st Φ):W P lo (.cond x y z) fr st Φ:=by
 intro ro B D c w a he hr Q hq
 have hd:a.eval x= .bool b:=he.fr.eval x _ hx
 refine wpIn_cond hd ?_
 cases b with
 |true=>exact(h1 rfl he (hr.imp id fun h=>(pP h).1) hq).wp
 |false=>exact(h2 rfl he (hr.imp id fun h=>(pP h).2) hq).wp
def Leave (id:Nat) (Φ:Ex->Fr->St->Prop):Ex->Fr->St->Prop
 | .exit j,fr,st=>if j=id then Φ .normal fr st else Φ (.exit j) fr st
 |x,fr,st=>Φ x fr st
theorem W.block {id:Nat} {x:Code} (h:W P lo x fr st (Leave id Φ)):W P lo (.block id x) fr st Φ:=by
 intro ro B D c w a he hr Q hq
 refine wpIn_block (h he hr fun e fr' st' D' c' a' w' h1 h2 h3 h4 h5=> ?_).wp
 cases e with
 |normal=>exact hq _ _ _ _ _ _ _ h1 h2 h3 h4 h5
 |ret=>exact hq _ _ _ _ _ _ _ h1 h2 h3 h4 h5
 |exit j=>
  show(if j=id then Q .normal a' w' else Q (.exit j) a' w')
  by_cases e:j=id
  ·rw[HP e]
   have h1:(if j=id then Φ .normal fr' st' else Φ (.exit j) fr' st'):=h1
   rw[HP e] at h1
   exact hq .normal _ _ _ _ _ _ h1 h2 h3 h4 h5
  ·rw[TP e]
   have h1:(if j=id then Φ .normal fr' st' else Φ (.exit j) fr' st'):=h1
   rw[TP e] at h1
   exact hq (.exit j) _ _ _ _ _ _ h1 h2 h3 h4 h5
theorem W.loop {x:Code} (h:W P lo x fr st (VD P lo (.loop x) Φ)):W P lo (.loop x) fr st Φ:=by
 intro ro B D c w a he hr Q hq
 exact mZ.turn (h he hr (Cm hr hq)).wp
theorem W.scope {x:Code} (h:W P lo x fr st Φ):W P lo (.scope x) fr st Φ:=by
 intro ro B D c w a he hr Q hq
 refine FH (h he hr fun e fr' st' D' c' a' w' h1 h2 h3 h4 h5=> ?_).wp
 have:=hq e fr' st' D' c' a' w' h1 h2 h3 h4 h5
 cases e<;>exact this
end
end Sv
