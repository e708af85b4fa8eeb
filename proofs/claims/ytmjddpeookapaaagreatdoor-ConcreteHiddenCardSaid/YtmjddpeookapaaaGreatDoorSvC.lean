/- For ConcreteHidden: operations on trees. -/
import Derived.Test.YtmjddpeookapaaaGreatDoorSvA
import Derived.OrdersIn
import Derived.TacticsIn
import Derived.ChangeKeysEq
import Derived.Great.BuildSlice
import Derived.Deep.AppendSrc
import Derived.Laws.AppendOwn
import Derived.MapKept
set_option linter.unusedVariables false
set_option linter.unusedSimpArgs false
set_option linter.unusedSectionVars false
namespace Sv
open Go Go.RowKit
structure Good (st st' : St) (s : SVal) (c : Ctx) (w : World) (c' : Ctx) (v : Value) (w' : World) : Prop where
 val : Den c' s v
 rep : Rep c' st'.look w'
 step : Step st.next st'.next c st.look w c' st'.look w'
def Ran (P : Program) (S : Sem Value) (st st' : St) (s : SVal) (c : Ctx) (w : World) : Prop := ∃ c' v w', S.run P w = .ok v w' ∧ Good st st' s c w c' v w'
theorem Ran.same {P : Program} {S : Sem Value} {st : St} {s : SVal} {c : Ctx} {w : World} {v : Value} (hr : Rep c st.look w) (h : S.run P w = .ok v w) (hd : Den c s v) : Ran P S st st s c w :=
 ⟨c, v, w, h, hd, hr, Step.refl _ _ _ _⟩
abbrev Evl := Operand → Option SVal
def cZ (P : Program) (o : Oper) (e : Operand → Value) (st st' : St) (s : SVal) (c : Ctx) (w : World) : Prop :=
 ∀ (a : Act) (next : Act → World → Prop) (Q : Exit → Act → World → Prop), (∀ c' v w', Good st st' s c w c' v w' → next (a.put o.dst v) w') → o.uponIn Fence.wide 0 P a next Q ((execOp e o).run P w)
theorem cZ.val {P : Program} {o : Oper} {e : Operand → Value} {st st' : St} {s : SVal} {c : Ctx} {w : World} {S : Sem Value} (he : execOp e o = (do pure (.value (← S)) : Sem Next)) (h : Ran P S st st' s c w) : cZ P o e st st' s c w := by
 intro a next Q hn
 obtain ⟨c', v, w', h1, h2⟩ := h
 rw [he, Sem.run_bind, h1, Result.andThen_ok, Sem.run_pure]
 exact hn c' v w' h2
theorem cZ.same {P : Program} {o : Oper} {e : Operand → Value} {st : St} {s : SVal} {c : Ctx} {w : World} {v : Value} (hr : Rep c st.look w) (h : (execOp e o).run P w = .ok (.value v) w) (hd : Den c s v) : cZ P o e st st s c w := by
 intro a next Q hn
 rw [h]
 exact hn c v w ⟨hd, hr, Step.refl _ _ _ _⟩
theorem cZ.skip {P : Program} {o : Oper} {e : Operand → Value} {st st' : St} {c c' : Ctx} {w w' : World} {S : Sem Unit} (he : execOp e o = (do S; pure .skip : Sem Next)) (h : S.run P w = .ok () w') (hr : Rep c' st'.look w') (hs : Step st.next st'.next c st.look w c' st'.look w') :
  cZ P o e st st' (.tup []) c w := by
 intro a next Q hn
 rw [he, Sem.run_bind, h, Result.andThen_ok, Sem.run_pure]
 exact hn c' _ w' ⟨⟨[], rfl, rfl⟩, hr, hs⟩
structure bg (P : Program) (o : Oper) (ev : Evl) (st : St) (s : SVal) (st' : St) : Prop where
 nd : ∀ d, o.op ≠ .defer d
 sta : Sta st st'
 ok : ∀ {c : Ctx} {w : World}, Rep c st.look w → Wf st → mc c st.next st'.next → ∀ {e : Operand → Value}, (∀ x ∈ o.op.operands.toList, ∀ s, ev x = some s → Den c s (e x)) → cZ P o e st st' s c w
section
variable {P : Program} {E : Env} {o : Oper} {ev : Evl} {st : St}
theorem sem_move {x : Operand} {s : SVal} (ho : o.op = .move x) (hx : ev x = some s) : bg P o ev st s st :=
 ⟨by simp [ho], Sta.refl _, fun hr _ _ _ he => cZ.same hr (by simp [execOp, ho]) (he x (by simp [ho, Op.operands]) _ hx)⟩
theorem sem_assign {x : Operand} {s : SVal} (ho : o.op = .assign x) (hx : ev x = some s) : bg P o ev st s st :=
 ⟨by simp [ho], Sta.refl _, fun hr _ _ _ he => cZ.same hr (by simp [execOp, ho]) (he x (by simp [ho, Op.operands]) _ hx)⟩
theorem xg {x a b : Operand} {t : Bool} {s : SVal} (ho : o.op = .pick x a b) (hx : ev x = some (.bool t)) (hs : ev (Bool.rec b a t) = some s) : bg P o ev st s st :=
 ⟨by simp [ho], Sta.refl _, fun {c w} hr _ _ {e} he => by
  have hc : e x = .bool t := he x (by simp [ho, Op.operands]) _ hx
  refine cZ.same (v := if t then e a else e b) hr (by simp [execOp, ho, hc, asBool]) ?_
  cases t with
  | true => exact he a (by simp [ho, Op.operands]) _ hs
  | false => exact he b (by simp [ho, Op.operands]) _ hs⟩
theorem vg {x : Operand} {s : SVal} (ho : o.op = .nilCheck x) (hx : ev x = some s) (h : (∃ k off, s = .ptr k off) ∨ (∃ k t i off, s = .ec k t i off) ∨ (∃ r off, s = .bA r off) ∨ (∃ f a b, s = .func (.func f) a b)) : bg P o ev st s st :=
 ⟨by simp [ho], Sta.refl _, fun {c w} hr _ _ {e} he => by
  have hd := he x (by simp [ho, Op.operands]) _ hx
  refine cZ.same hr ?_ hd
  rcases h with ⟨k, off, rfl⟩ | ⟨k, t, i, off, rfl⟩ | ⟨r, off, rfl⟩ | ⟨f, a, b, rfl⟩
  ·obtain ⟨b, _, h2⟩ := hd; simp [execOp, ho, h2]
  ·obtain ⟨⟨a, h2⟩, _⟩ := hd; simp [execOp, ho, h2]
  ·obtain ⟨b, base, h2, _⟩ := hd; simp [execOp, ho, h2]
  ·obtain ⟨xs, ys, _, _, h2⟩ := hd; simp [execOp, ho, h2]⟩
theorem wrap_i64 {n : Int} (h0 : -9223372036854775808 ≤ n) (h1 : n < 9223372036854775808) : IntKind.i64.wrap n = n := by
 have e : (2 : Int) ^ 64 = 18446744073709551616 := by decide
 have e2 : (2 : Int) ^ (64 - 1) = 9223372036854775808 := by decide
 simp only [IntKind.wrap, IntKind.bits, IntKind.signed, e, e2, Bool.true_and]
 split
 ·rename_i hc; simp at hc; omega
 ·rename_i hc; simp at hc; omega
theorem wrap_u8 {n : Int} (h0 : 0 ≤ n) (h1 : n < 256) : IntKind.u8.wrap n = n := by
 have e : (2 : Int) ^ 8 = 256 := by decide
 simp only [IntKind.wrap, IntKind.bits, IntKind.signed, e, Bool.false_and, Bool.false_eq_true, if_false]
 omega
theorem wrap_u64 {n : Int} (h0 : 0 ≤ n) (h1 : n < 18446744073709551616) : IntKind.u64.wrap n = n := by
 have e : (2 : Int) ^ 64 = 18446744073709551616 := by decide
 simp only [IntKind.wrap, IntKind.bits, IntKind.signed, e, Bool.false_and, Bool.false_eq_true, if_false]
 omega
def InR : IntKind → Int → Prop
 | .i64, n => -9223372036854775808 ≤ n ∧ n < 9223372036854775808
 | .u8, n => 0 ≤ n ∧ n < 256
 | .u64, n => 0 ≤ n ∧ n < 18446744073709551616
 | k, n => k.wrap n = n
theorem InR.wrap : ∀ {k : IntKind} {n : Int}, InR k n → k.wrap n = n
 | .i64, _, h => wrap_i64 h.1 h.2
 | .u8, _, h => wrap_u8 h.1 h.2
 | .u64, _, h => wrap_u64 h.1 h.2
 | .i8, _, h => h
 | .i16, _, h => h
 | .i32, _, h => h
 | .u16, _, h => h
 | .u32, _, h => h
def arith : BinOp → Int → Int → Option Int
 | .add, a, b => some (a + b)
 | .sub, a, b => some (a - b)
 | .mul, a, b => some (a * b)
 | _, _, _ => none
def rW : BinOp → Int → Int → Option Bool
 | .eql, a, b => some (decide (a = b))
 | .neq, a, b => some (!decide (a = b))
 | .lss, a, b => some (decide (a < b))
 | .leq, a, b => some (decide (a ≤ b))
 | .gtr, a, b => some (decide (b < a))
 | .geq, a, b => some (decide (b ≤ a))
 | _, _, _ => none
def rT : BinOp → List UInt8 → List UInt8 → Option Bool
 | .eql, a, b => some (decide (a = b))
 | .neq, a, b => some (!decide (a = b))
 | .lss, a, b => some (Op.bytesLess a b)
 | .leq, a, b => some (Op.bytesLess a b || decide (a = b))
 | .gtr, a, b => some (!(Op.bytesLess a b || decide (a = b)))
 | .geq, a, b => some (!Op.bytesLess a b)
 | _, _, _ => none
theorem exec_bin {e : Operand → Value} {op : BinOp} {t ty : TypeId} {x y : Operand} (ho : o.op = .binOp op t x y ty) : execOp e o = (do pure (.value (← (do eqGuard op t x y (e x) (e y); binOp op t (e x) (e y) : Sem Value))) : Sem Next) := by
 simp only [execOp, ho]
theorem dL {op : BinOp} {t ty : TypeId} {x y : Operand} {s1 s2 s : SVal} (ho : o.op = .binOp op t x y ty) (hx : ev x = some s1) (hy : ev y = some s2)
  (h : ∀ (c : Ctx) (u v : Value), Den c s1 u → Den c s2 v → ∃ r, Den c s r ∧ ∀ w, ((do eqGuard op t x y u v; binOp op t u v : Sem Value)).run P w = .ok r w) : bg P o ev st s st :=
 ⟨by simp [ho], Sta.refl _, fun {c w} hr _ _ {e} he => by
  obtain ⟨r, h1, h2⟩ := h c _ _ (he x (by simp [ho, Op.operands]) _ hx) (he y (by simp [ho, Op.operands]) _ hy)
  exact cZ.val (exec_bin ho) (Ran.same hr (h2 w) h1)⟩
theorem nE {op : BinOp} {t ty : TypeId} {x y : Operand} {k : IntKind} {a b r : Int} (ho : o.op = .binOp op t x y ty) (hx : ev x = some (.int k a)) (hy : ev y = some (.int k b)) (h : arith op a b = some r) (hr : InR k r) : bg P o ev st (.int k r) st :=
 dL ho hx hy fun c u v hu hv => by
  cases hu; cases hv
  refine ⟨_, rfl, fun w => ?_⟩
  rw [eqGuard_at_int]
  cases op <;> simp only [arith, Option.some.injEq, reduceCtorEq] at h <;> (subst h; simp [binOp, Op.intArith, hr.wrap])
theorem sem_quo {t ty : TypeId} {x y : Operand} {k : IntKind} {a b : Int} (ho : o.op = .binOp .quo t x y ty) (hx : ev x = some (.int k a)) (hy : ev y = some (.int k b)) (hb : b ≠ 0) (hr : InR k (a.tdiv b)) : bg P o ev st (.int k (a.tdiv b)) st :=
 dL ho hx hy fun c u v hu hv => by
  cases hu; cases hv
  refine ⟨_, rfl, fun w => ?_⟩
  rw [eqGuard_at_int]
  simp [binOp, Op.intDiv, hb, hr.wrap]
theorem sem_rem {t ty : TypeId} {x y : Operand} {k : IntKind} {a b : Int} (ho : o.op = .binOp .rem t x y ty) (hx : ev x = some (.int k a)) (hy : ev y = some (.int k b)) (hb : b ≠ 0) : bg P o ev st (.int k (a.tmod b)) st :=
 dL ho hx hy fun c u v hu hv => by
  cases hu; cases hv
  refine ⟨_, rfl, fun w => ?_⟩
  rw [eqGuard_at_int]
  simp [binOp, Op.intDiv, hb]
theorem ky {op : BinOp} {t ty : TypeId} {x y : Operand} {k : IntKind} {a b : Int} {r : Bool} (ho : o.op = .binOp op t x y ty) (hx : ev x = some (.int k a)) (hy : ev y = some (.int k b)) (h : rW op a b = some r) : bg P o ev st (.bool r) st :=
 dL ho hx hy fun c u v hu hv => by
  cases hu; cases hv
  refine ⟨_, rfl, fun w => ?_⟩
  rw [eqGuard_at_int]
  cases op <;> simp only [rW, Option.some.injEq, reduceCtorEq] at h <;> subst h <;> simp only [binOp_eql, binOp_neq, binOp_lss, binOp_leq, binOp_gtr, binOp_geq, Sem.run_bind, Sem.run_pure, Result.andThen_ok, bne] <;>
   refine congrArg (fun b => Result.ok (Value.bool b) w) ?_ <;> rw [Bool.eq_iff_iff] <;> simp
theorem sem_cmpS {op : BinOp} {t ty : TypeId} {x y : Operand} {a b : List UInt8} {r : Bool} (ho : o.op = .binOp op t x y ty) (hx : ev x = some (.str a)) (hy : ev y = some (.str b)) (h : rT op a b = some r) : bg P o ev st (.bool r) st :=
 dL ho hx hy fun c u v hu hv => by
  cases hu; cases hv
  have e : ∀ op, binOp op t (.string ⟨a.toArray⟩) (.string ⟨b.toArray⟩) = Op.stringOp op ⟨a.toArray⟩ ⟨b.toArray⟩ := fun op => by cases op <;> rfl
  refine ⟨_, rfl, fun w => ?_⟩
  rw [eqGuard_at_string]
  have e2 : (a == b) = decide (a = b) := by rw [Bool.eq_iff_iff]; simp
  cases op <;> simp only [rT, Option.some.injEq, reduceCtorEq] at h <;> subst h <;> simp only [e, Sem.run_bind, Sem.run_pure, Result.andThen_ok] <;> simp [Op.stringOp, ByteArray.toList_eq, e2]
theorem sem_addS {t ty : TypeId} {x y : Operand} {a b : List UInt8} (ho : o.op = .binOp .add t x y ty) (hx : ev x = some (.str a)) (hy : ev y = some (.str b)) (h : a.length + b.length ≤ 1000000) : bg P o ev st (.str (a ++ b)) st :=
 dL ho hx hy fun c u v hu hv => by
  cases hu; cases hv
  have e : ∀ op, binOp op t (.string ⟨a.toArray⟩) (.string ⟨b.toArray⟩) = Op.stringOp op ⟨a.toArray⟩ ⟨b.toArray⟩ := fun op => by cases op <;> rfl
  refine ⟨.string ⟨(a ++ b).toArray⟩, rfl, fun w => ?_⟩
  rw [eqGuard_at_string]
  simp only [Sem.run_bind, Sem.run_pure, Result.andThen_ok, e]
  rw [run_string_add_sum w _ _ (by show a.toArray.size + b.toArray.size ≤ _; simp; omega)]
  congr 2
theorem sem_not {t : TypeId} {x : Operand} {b : Bool} (ho : o.op = .unOp .not t x) (hx : ev x = some (.bool b)) : bg P o ev st (.bool (!b)) st :=
 ⟨by simp [ho], Sta.refl _, fun {c w} hr _ _ {e} he => by
  have hd : e x = .bool b := he x (by simp [ho, Op.operands]) _ hx
  exact cZ.same hr (by simp [execOp, ho, hd, Op.unary]) rfl⟩
theorem sem_neg {t : TypeId} {x : Operand} {k : IntKind} {a : Int} (ho : o.op = .unOp .neg t x) (hx : ev x = some (.int k a)) (hr : InR k (0 - a)) : bg P o ev st (.int k (0 - a)) st :=
 ⟨by simp [ho], Sta.refl _, fun {c w} hrep _ _ {e} he => by
  have hd : e x = .int k a := he x (by simp [ho, Op.operands]) _ hx
  exact cZ.same (v := .int k (0 - a)) hrep (by simp only [execOp, ho, hd, Op.unary, Op.intArith, hr.wrap]; rfl) rfl⟩
end
noncomputable def eqL (E : Env) (f : TypeId → SVal → SVal → Option Bool) (xs ys : List SVal) : List (TypeId × Nat) → Option Bool
 | [] => some true
 | p :: r => bnd (qR E p.1 xs p.2) fun x => bnd (qR E p.1 ys p.2) fun y => bnd (f p.1 x y) fun b => bnd (eqL E f xs ys r) fun q => some (b && q)
noncomputable def eqAt (E : Env) (rec : TypeId → SVal → SVal → Option Bool) (t : TypeId) (d : TypeDesc) (x y : SVal) : Option Bool :=
 match d, x, y with
 | .bool, .bool a, .bool b => some (a == b)
 | .int _, .int k a, .int k' b => whn (decide (k = k')) (some (decide (a = b)))
 | .string, .str a, .str b => some (decide (a = b))
 | .pointer _, .nilPtr, .nilPtr => some true
 | .pointer _, .nilPtr, .ptr _ _ => some false
 | .pointer _, .ptr _ _, .nilPtr => some false
 | .slice _, .az, .az => some true
 | .slice _, .lst _ (_ :: _), .az => some false
 | .map _ _, .dy, .dy => some true
 | .map _ _, .map _, .dy => some false
 | .func _ _ _, .eE, .eE => some true
 | .func _ _ _, .func _ _ _, .eE => some false
 | .struct fs, .agg xs, .agg ys => whn (E.eqs.any (Nat.beq t)) <| eqL E rec xs ys ((fs.toList.filter (fun f => f.name != "_")).map fun f => (f.type, f.offset))
 | .array n e, .agg xs, .agg ys => whn (E.eqs.any (Nat.beq t)) <| bnd (cj E e) fun s => eqL E rec xs ys ((List.range n).map fun i => (e, i * s))
 | _, _, _ => none
noncomputable def eqS (E : Env) : Nat → TypeId → SVal → SVal → Option Bool
 | 0, _, _, _ => none
 | d + 1, t, x, y => bnd (under E t) fun u => eqAt E (eqS E d) t u x y
theorem wD {l : List Nat} {t : Nat} (h : l.any (Nat.beq t) = true) : t ∈ l := by
 rw [List.any_eq_true] at h
 obtain ⟨x, h1, h2⟩ := h
 cases beq_true h2
 exact h1
theorem toList_mk (a : List UInt8) : (ByteArray.mk a.toArray).toList = a := by rw [ByteArray.toList_eq]
theorem rI {c : Ctx} {f : Fn} {a b : List SVal} {v : Value} (h : Den c (.func f a b) v) : ∃ g x y, v = .func g x y := by
 cases f <;> first
  | (obtain ⟨_, _, h⟩ := h; exact ⟨_, _, _, h⟩)
  | (obtain ⟨_, _, _, _, h⟩ := h; exact ⟨_, _, _, h⟩)
def EqOk (P : Program) (f : TypeId → SVal → SVal → Option Bool) (d : Nat) : Prop :=
 ∀ t x y b, f t x y = some b → ∀ c u v w, Den c x u → Den c y v → (Op.equalIn d t u v).run P w = .ok b w
section
variable {P : Program} {E : Env} (hE : a7 P E)
include hE
theorem l6 {f : TypeId → SVal → SVal → Option Bool} {d : Nat} (hf : EqOk P f d) {c : Ctx} {xs ys : List SVal} {us vs : List Value} (hx : aM c xs us) (hy : aM c ys vs) (w : World) :
  ∀ (fs : List Field) (b : Bool), eqL E f xs ys ((fs.filter (fun f => f.name != "_")).map fun f => (f.type, f.offset)) = some b → (Op.eqFields d us.toArray vs.toArray fs).run P w = .ok b w
 | [], b, h => by cases h; rfl
 | g :: fs, b, h => by
  rw [List.filter_cons] at h
  unfold Op.eqFields
  by_cases hn : g.name = "_"
  ·rw [if_neg (by simp [hn])] at h
   rw [if_neg (by simp [hn])]
   exact l6 hf hx hy w fs b h
  ·rw [if_pos (by simpa using hn), List.map_cons, eqL, aU] at h
   obtain ⟨x, h1, h⟩ := h
   rw [aU] at h
   obtain ⟨y, h2, h⟩ := h
   rw [aU] at h
   obtain ⟨r, h3, h⟩ := h
   rw [aU] at h
   obtain ⟨q, h8, h⟩ := h
   cases h
   rw [if_pos hn]
   obtain ⟨u, h4, h5⟩ := ff hE h1 hx
   obtain ⟨v, h6, h7⟩ := ff hE h2 hy
   simp only [Sem.run_bind, h5 w, h7 w, hf _ _ _ _ h3 c u v w h4 h6, Result.andThen_ok]
   cases r with
   | false => rfl
   | true => simpa using l6 hf hx hy w fs q h8
theorem uo {f : TypeId → SVal → SVal → Option Bool} {d : Nat} (hf : EqOk P f d) {c : Ctx} {xs ys : List SVal} {us vs : List Value} (hx : aM c xs us) (hy : aM c ys vs) (w : World) (e : TypeId) (z : Nat) :
  ∀ (is : List Nat) (b : Bool), eqL E f xs ys (is.map fun i => (e, i * z)) = some b → (Op.eqItems d e z us.toArray vs.toArray is).run P w = .ok b w
 | [], b, h => by cases h; rfl
 | i :: is, b, h => by
  rw [List.map_cons, eqL, aU] at h
  obtain ⟨x, h1, h⟩ := h
  rw [aU] at h
  obtain ⟨y, h2, h⟩ := h
  rw [aU] at h
  obtain ⟨r, h3, h⟩ := h
  rw [aU] at h
  obtain ⟨q, h8, h⟩ := h
  cases h
  unfold Op.eqItems
  obtain ⟨u, h4, h5⟩ := ff hE h1 hx
  obtain ⟨v, h6, h7⟩ := ff hE h2 hy
  simp only [Sem.run_bind, h5 w, h7 w, hf _ _ _ _ h3 c u v w h4 h6, Result.andThen_ok]
  cases r with
  | false => rfl
  | true => simpa using uo hf hx hy w e z is q h8
theorem eqS_ok (k : Nat) : ∀ d, EqOk P (eqS E d) (d + k)
 | 0 => fun t x y b h => by cases h
 | d + 1 => fun t x y b h c u v w hx hy => by
  have ih := eqS_ok k d
  rw [show d + 1 + k = (d + k) + 1 from by omega]
  generalize d + k = d' at *
  have h' : (bnd (under E t) fun u => eqAt E (eqS E d) t u x y) = some b := h
  rw [aU] at h'
  obtain ⟨D, h1, h2⟩ := h'
  have hu := bu hE h1
  unfold eqAt at h2
  split at h2
  all_goals first
   | (cases h2; done)
   | skip
  ·cases h2; cases hx; cases hy; simp [Op.equalIn, run_underlying hu]
  ·rw [dJ] at h2
   cases of_decide_eq_true h2.1
   have := h2.2
   cases this
   cases hx; cases hy
   rw [run_equalIn_int w d' t _ _ _ _ hu]
   rfl
  ·cases h2; cases hx; cases hy
   rw [run_equalIn_string w d' t _ _ hu, toList_mk, toList_mk]
   congr 1
   rw [Bool.eq_iff_iff]; simp
  ·cases h2; cases hx; cases hy; simp [Op.equalIn, run_underlying hu]
  ·cases h2; cases hx; obtain ⟨l, _, rfl⟩ := hy; simp [Op.equalIn, run_underlying hu]
  ·cases h2; cases hy; obtain ⟨l, _, rfl⟩ := hx; simp [Op.equalIn, run_underlying hu]
  ·cases h2; cases hx; cases hy; simp [Op.equalIn, run_underlying hu]
  ·cases h2; cases hy
   rcases hx with ⟨h, _⟩ | ⟨b, base, size, cap, rfl, _⟩
   ·cases h
   ·simp [Op.equalIn, run_underlying hu]
  ·cases h2; cases hx; cases hy; simp [Op.equalIn, run_underlying hu]
  ·cases h2; cases hy; obtain ⟨l, _, rfl⟩ := hx; simp [Op.equalIn, run_underlying hu]
  ·cases h2; cases hx; cases hy; simp [Op.equalIn, run_underlying hu]
  ·cases h2; cases hy; obtain ⟨_, p, q, rfl⟩ := rI hx; simp [Op.equalIn, run_underlying hu]
  ·rename_i fs xs ys
   rw [dJ] at h2
   obtain ⟨us, h3, rfl⟩ := hx
   obtain ⟨vs, h4, rfl⟩ := hy
   have hf : P.fieldsOf t = fs := by unfold Program.fieldsOf; rw [hu]
   rw [run_equalIn_struct w d' t _ _ (by rw [hf]; exact hu) (hE.eqs t (wD h2.1)).1, hf]
   exact l6 hE ih h3 h4 w _ b h2.2
  ·rename_i n e xs ys
   rw [dJ, aU] at h2
   obtain ⟨_, s, h5, h6⟩ := h2
   obtain ⟨us, h3, rfl⟩ := hx
   obtain ⟨vs, h4, rfl⟩ := hy
   obtain ⟨i, hi, rfl, _⟩ := bE hE h5
   rw [run_equalIn_array w d' _ _ hu hi]
   have : P.cellsOf e = i.size := by simp [Program.cellsOf, hi]
   rw [this]
   exact uo hE ih h3 h4 w e _ _ b h6
theorem yP {t : TypeId} {x y : SVal} {b : Bool} (h : eqS E 100 t x y = some b) {c : Ctx} {u v : Value} (hx : Den c x u) (hy : Den c y v) (w : World) : (Op.equal t u v).run P w = .ok b w :=
 eqS_ok hE 9900 100 t x y b h c u v w hx hy
end
def plainV : Value → Bool
 | .int _ _ => false
 | .string _ => false
 | .float _ _ => false
 | .complex _ _ _ => false
 | _ => true
theorem sw (t : TypeId) (u v : Value) (h : plainV u = true) : binOp .eql t u v = (do pure (.bool (← Op.equal t u v)) : Sem Value) := by
 cases u <;> first | (cases h; done) | (cases v <;> rfl)
theorem binOp_neq' (t : TypeId) (u v : Value) (h : plainV u = true) : binOp .neq t u v = (do pure (.bool (!(← Op.equal t u v))) : Sem Value) := by
 cases u <;> first | (cases h; done) | (cases v <;> rfl)
def qQ : SVal → Bool
 | .int _ _ => false
 | .str _ => false
 | .tup _ => false
 | .nilIface => false
 | .iface _ _ => false
 | _ => true
theorem uv {c : Ctx} {x : SVal} {u : Value} (h : Den c x u) (hp : qQ x = true) : plainV u = true := by
 cases x <;> first
  | (cases hp; done)
  | (cases h; rfl)
  | (obtain ⟨l, _, rfl⟩ := h; rfl)
  | (obtain ⟨⟨a, rfl⟩, _⟩ := h; rfl)
  | (obtain ⟨⟨a, n, cap, rfl⟩, _⟩ := h; rfl)
  | (obtain ⟨b, base, rfl, _⟩ := h; rfl)
  | (obtain ⟨_, l, _, rfl⟩ := rI h; rfl)
  | (rcases h with ⟨_, a, cap, rfl, _⟩ | ⟨b, base, size, cap, rfl, _⟩ <;> rfl)
theorem yD {P : Program} {E : Env} (hE : a7 P E) {t : TypeId} {x y : SVal} {b : Bool} (h : eqS E 100 t x y = some b) {c : Ctx} {u v : Value} (hx : Den c x u) (hp : qQ x = true) (op : BinOp) (p q : Operand) (w : World) :
  (eqGuard op t p q u v).run P w = .ok () w := by
 cases x with
 | agg l =>
  obtain ⟨us, _, rfl⟩ := hx
  have h' : (bnd (under E t) fun u => eqAt E (eqS E 99) t u (.agg l) y) = some b := h
  rw [aU] at h'
  obtain ⟨D, h1, h2⟩ := h'
  have ht : t ∈ E.eqs := by
   unfold eqAt at h2
   split at h2
   all_goals first
    | (rename_i hh; cases hh; done)
    | (rename_i hh _; cases hh; done)
    | (rename_i hh hh2; cases hh2; done)
    | (rename_i e1 e2; rw [dJ] at h2; exact wD h2.1)
    | (cases h2; done)
    | skip
  have := (hE.eqs t ht).2
  cases v with
  | agg vs => exact run_eqGuard_agg w op t p q _ _ this
  | _ => cases op <;> rfl
 | ptr k off => obtain ⟨l, _, rfl⟩ := hx; rw [eqGuard_at_pointer]; rfl
 | ec => obtain ⟨⟨a, rfl⟩, _⟩ := hx; rw [eqGuard_at_pointer]; rfl
 | bA => obtain ⟨b, base, rfl, _⟩ := hx; rw [eqGuard_at_pointer]; rfl
 | own => obtain ⟨⟨a, n, cap, rfl⟩, _⟩ := hx; rw [eqGuard_at_slice]; rfl
 | lst => rcases hx with ⟨_, a, cap, rfl, _⟩ | ⟨b, base, size, cap, rfl, _⟩ <;> (rw [eqGuard_at_slice]; rfl)
 | map k => obtain ⟨l, _, rfl⟩ := hx; rw [eqGuard_at_map]; rfl
 | func f a b => obtain ⟨_, l, _, rfl⟩ := rI hx; rw [eqGuard_at_func]; rfl
 | bool c => cases hx; rw [eqGuard_at_bool]; rfl
 | nilPtr => cases hx; rw [eqGuard_at_pointer]; rfl
 | az => cases hx; rw [eqGuard_at_slice]; rfl
 | dy => cases hx; rw [eqGuard_at_map]; rfl
 | eE => cases hx; rw [eqGuard_at_nilFunc]; rfl
 | _ => cases hp
section
variable {P : Program} {E : Env} {o : Oper} {ev : Evl} {st : St}
theorem sem_eq (hE : a7 P E) {t ty : TypeId} {x y : Operand} {a b : SVal} {r : Bool} (ho : o.op = .binOp .eql t x y ty) (hx : ev x = some a) (hy : ev y = some b) (hp : qQ a = true) (h : eqS E 100 t a b = some r) : bg P o ev st (.bool r) st :=
 dL ho hx hy fun c u v hu hv => ⟨_, rfl, fun w => by
  simp only [Sem.run_bind, yD hE h hu hp, Result.andThen_ok, sw t u v (uv hu hp), yP hE h hu hv w, Sem.run_pure]⟩
theorem sem_ne (hE : a7 P E) {t ty : TypeId} {x y : Operand} {a b : SVal} {r : Bool} (ho : o.op = .binOp .neq t x y ty) (hx : ev x = some a) (hy : ev y = some b) (hp : qQ a = true) (h : eqS E 100 t a b = some r) : bg P o ev st (.bool (!r)) st :=
 dL ho hx hy fun c u v hu hv => ⟨_, rfl, fun w => by
  simp only [Sem.run_bind, yD hE h hu hp, Result.andThen_ok, binOp_neq' t u v (uv hu hp), yP hE h hu hv w, Sem.run_pure]⟩
def padd : SVal → Nat → Option SVal
 | .ptr k off, n => some (.ptr k (off + n))
 | .ec k s i off, n => some (.ec k s i (off + n))
 | .bA row off, n => some (.bA row (off + n))
 | _, _ => none
theorem xS {c : Ctx} {x s : SVal} {n : Nat} (h : padd x n = some s) {u : Value} (hx : Den c x u) : ∃ b o, u = .pointer (some ⟨b, o, none⟩) ∧ Den c s (.pointer (some ⟨b, o + n, none⟩)) ∨ (∃ a, u = .pointer (some a)) ∧ ∀ a', Den c s (.pointer (some a')) := by
 unfold padd at h
 split at h
 ·cases h
  obtain ⟨b, h1, rfl⟩ := hx
  exact ⟨b, _, .inl ⟨rfl, b, h1, rfl⟩⟩
 ·rename_i k t i off
  cases h
  obtain ⟨⟨a, rfl⟩, b, st, sz, u', h1, h2, h3⟩ := hx
  by_cases e : st = t
  ·obtain ⟨r, rfl, h4⟩ := h3 e
   simp only [Value.pointer.injEq, Option.some.injEq] at h4
   subst h4
   exact ⟨r, _, .inl ⟨rfl, ⟨_, rfl⟩, _, st, sz, u', h1, h2, fun _ => ⟨r, rfl, by rw [Nat.add_assoc]⟩⟩⟩
  ·exact ⟨0, 0, .inr ⟨⟨a, rfl⟩, fun a' => ⟨⟨_, rfl⟩, b, st, sz, u', h1, h2, fun e' => absurd e' e⟩⟩⟩
 ·cases h
  obtain ⟨b, base, rfl, h1⟩ := hx
  exact ⟨b, _, .inl ⟨rfl, b, base, by rw [Nat.add_assoc], h1⟩⟩
 ·cases h
theorem oE {t : TypeId} {f : Nat} {fs : Array Field} {fd : Field} (h2 : P.underlying t = some (.struct fs)) (h3 : fs[f]? = some fd) {n : Nat} (hs : ∀ w, (Go.sizeOf fd.type).run P w = .ok n w) (h0 : n ≠ 0) (a : Addr) (w : World) :
  (Instr.fieldAt t (.pointer (some a)) f).run P w = .ok (.pointer (some (a.add fd.offset))) w := by
 simp only [Instr.fieldAt, Sem.run_bind, run_underlying h2, Result.andThen_ok, h3, Instr.sureAddr, Sem.run_pure, fieldPlace, hs, h0, if_false]
theorem s8 (hE : a7 P E) {t : TypeId} {x : Operand} {f : Nat} {fd : Field} {p s : SVal} {n : Nat} (ho : o.op = .fieldAddr t x f) (hf : n5 E t f = some fd) (hx : ev x = some p) (hn : cj E fd.type = some n) (h1 : Nat.ble 1 n = true) (hp : padd p fd.offset = some s) : bg P o ev st s st :=
 ⟨by simp [ho], Sta.refl _, fun {c w} hr _ _ {e} he => by
  obtain ⟨fs, h2, h3⟩ := oT hE hf
  obtain ⟨i, _, rfl, hs⟩ := bE hE hn
  have h0 : i.size ≠ 0 := by have := cr h1; omega
  have hd := he x (by simp [ho, Op.operands]) _ hx
  obtain ⟨b, off, h⟩ := xS hp hd
  have : execOp e o = (do pure (.value (← Instr.fieldAt t (e x) f)) : Sem Next) := by simp only [execOp, ho]
  rcases h with ⟨h4, h5⟩ | ⟨⟨a, h4⟩, h5⟩
  ·rw [h4] at this
   exact cZ.val this (Ran.same hr (oE h2 h3 hs h0 _ w) (by rw [eS]; exact h5))
  ·rw [h4] at this
   exact cZ.val this (Ran.same hr (oE h2 h3 hs h0 _ w) (h5 _))⟩
theorem sem_field (hE : a7 P E) {t : TypeId} {x : Operand} {f : Nat} {fd : Field} {l : List SVal} {s : SVal} (ho : o.op = .field t x f) (hf : n5 E t f = some fd) (hx : ev x = some (.agg l)) (hp : qR E fd.type l fd.offset = some s) : bg P o ev st s st :=
 ⟨by simp [ho], Sta.refl _, fun {c w} hr _ _ {e} he => by
  obtain ⟨fs, h2, h3⟩ := oT hE hf
  obtain ⟨vs, h4, h5⟩ := he x (by simp [ho, Op.operands]) _ hx
  obtain ⟨v, h6, h7⟩ := ff hE hp h4
  refine cZ.val (S := Instr.field t (e x) f) (by simp only [execOp, ho]) (Ran.same hr (v := v) ?_ h6)
  simp only [Instr.field, Sem.run_bind, run_underlying h2, Result.andThen_ok, h3, h5, asAgg, Sem.run_pure, h7]⟩
theorem sem_load (hE : a7 P E) {t : TypeId} {x : Operand} {p s : SVal} {l : List SVal} (ho : o.op = .load t x) (hx : ev x = some p) (hl : iZ st p l) (hs : oP E t l = some s) : bg P o ev st s st :=
 ⟨by simp [ho], Sta.refl _, fun {c w} hr _ _ {e} he => by
  obtain ⟨b, off, h1, h2⟩ := hl.spec hr (he x (by simp [ho, Op.operands]) _ hx)
  obtain ⟨v, h3, h4⟩ := rb (P := P) hE h2 hs
  refine cZ.val (S := Instr.loadAt t (e x)) (by simp only [execOp, ho]) (Ran.same hr (v := v) ?_ h3)
  simp only [h1, Instr.loadAt, Sem.run_bind, Instr.sureAddr, Sem.run_pure, Result.andThen_ok, h4]⟩
theorem sem_store (hE : a7 P E) {t : TypeId} {x y : Operand} {p s : SVal} {n : Nat} {st' : St} (ho : o.op = .store t x y) (hx : ev x = some p) (hy : ev y = some s) (hn : cj E t = some n) (hl : Nat.beq (bD s).length n = true) (hf : oR (bD s)) (hp : Put st p (bD s) st') : bg P o ev st (.tup []) st' :=
 ⟨by simp [ho], hp.sta, fun {c w} hr _ _ {e} he => by
  have hd := he y (by simp [ho, Op.operands]) _ hy
  have hs := di hd
  obtain ⟨b, off, w', h1, h2, h3, h4⟩ := hp.ok hr (he x (by simp [ho, Op.operands]) _ hx) hs hf
  obtain ⟨i, _, rfl, hsr⟩ := bE hE hn
  have hl : (bD s).length = i.size := beq_true hl
  have hc : (e y).cells.size = i.size := by have := hs.length; simpa [hl] using this
  refine cZ.skip (S := Instr.storeAt t (e x) (e y)) (by simp only [execOp, ho]) ?_ h3 h4
  simp only [h1, Instr.storeAt, Instr.sureAddr, Sem.run_bind, Sem.run_pure, Result.andThen_ok, storeVar, hsr w, hc, ne_eq, not_true, if_false, h2 P]⟩
theorem gI {t elem : TypeId} {n cap : Nat} {d : TypeDesc} {j : Nat} {a : Addr} {k : IntKind} {v : Value} (hu : P.underlying t = some d) (hv : (d = .array n elem ∧ v = .pointer (some a)) ∨ (d = .slice elem ∧ v = .slice (some a) n cap)) {sz : Nat} (hs : ∀ w, (Go.sizeOf elem).run P w = .ok sz w) (hj : j < n) (w : World) :
  (Instr.indexAt t v (.int k j)).run P w = .ok (.pointer (some (a.add (j * sz)))) w := by
 have hj : (0 : Int) ≤ (j : Int) ∧ (j : Int) < (n : Int) := by omega
 rcases hv with ⟨rfl, rfl⟩ | ⟨rfl, rfl⟩
 ·simp only [Instr.indexAt, Sem.run_bind, asIntOf, Sem.run_pure, Result.andThen_ok, run_underlying hu, Instr.sureAddr, hj, and_self, if_true, hs, Int.toNat_natCast]
 ·simp only [Instr.indexAt, Sem.run_bind, asIntOf, Sem.run_pure, Result.andThen_ok, run_underlying hu, hj, and_self, if_true, hs, Int.toNat_natCast]
theorem s6 (hE : a7 P E) {t elem : TypeId} {x ix : Operand} {k : IntKind} {n : Int} {j sz : Nat} {f : Bool} {rows : List (List SVal)} {row : List SVal} (ho : o.op = .indexAddr t x ix) (hix : ev ix = some (.int k n)) (hx : ev x = some (.lst f rows))
  (ht : cJ E t = some elem) (hsz : cj E elem = some sz) (hn : n = (j : Int)) (hrow : rows[j]? = some row) (hl : row.length = sz) : bg P o ev st (.bA row 0) st :=
 ⟨by simp [ho], Sta.refl _, fun {c w} hr _ _ {e} he => by
  have hu := bP hE ht
  obtain ⟨i, _, rfl, hs⟩ := bE hE hsz
  have hj : j < rows.length := (List.getElem?_eq_some_iff.1 hrow).1
  subst hn
  have hi : e ix = .int k j := he ix (by simp [ho, Op.operands]) _ hix
  rcases he x (by simp [ho, Op.operands]) _ hx with ⟨h, _⟩ | ⟨b, base, size, cap, h1, h2, h3, h4⟩
  ·rw [h] at hj; simp at hj
  ·obtain ⟨h5, h6⟩ := h4.get hrow
   refine cZ.val (S := Instr.indexAt t (e x) (e ix)) (by simp only [execOp, ho]) (Ran.same hr (v := .pointer (some ⟨b, base + j * i.size, none⟩)) ?_ ⟨b, base + j * i.size, rfl, by rw [← hl, h5]; exact h6⟩)
   rw [hi, h1, gI hu (.inr ⟨rfl, rfl⟩) hs hj, eS]⟩
theorem sZ (hE : a7 P E) {t elem : TypeId} {x ix : Operand} {k : IntKind} {n : Int} {j sz r s : Nat} {z : Bool} {rows : List (List SVal)} (ho : o.op = .indexAddr t x ix) (hix : ev ix = some (.int k n)) (hx : ev x = some (.own r s)) (hk : st.look r = some (.row sz rows s z))
  (ht : cJ E t = some elem) (hsz : cj E elem = some sz) (hn : n = (j : Int)) (hj : j < rows.length) : bg P o ev st (.ec r s j 0) st :=
 ⟨by simp [ho], Sta.refl _, fun {c w} hr _ _ {e} he => by
  have hu := bP hE ht
  obtain ⟨i, _, rfl, hs⟩ := bE hE hsz
  subst hn
  have hi : e ix = .int k j := he ix (by simp [ho, Op.operands]) _ hix
  obtain ⟨_, ob, st0, sz0, u, h1, h2, h3⟩ := he x (by simp [ho, Op.operands]) _ hx
  obtain ⟨l', h4, h5⟩ := hr.cW _ _ hk
  rw [h1] at h4
  cases h4
  obtain ⟨rfl, rfl, h5⟩ := h5
  cases ob with
  | none => obtain ⟨rfl, _⟩ := h5; simp at hj
  | some b =>
   obtain ⟨arr, ee, cap, h5⟩ := h5
   refine cZ.val (S := Instr.indexAt t (e x) (e ix)) (by simp only [execOp, ho]) (Ran.same hr (v := .pointer (some ⟨b, j * i.size, none⟩)) ?_ ⟨⟨_, rfl⟩, some b, _, _, u, h1, Nat.le_refl _, fun _ => ⟨b, rfl, rfl⟩⟩)
   rw [hi, h3 rfl, h5.val, gI hu (.inr ⟨rfl, rfl⟩) hs hj, eS]
   simp⟩
theorem qw (hE : a7 P E) {t elem : TypeId} {x ix : Operand} {k : IntKind} {n : Int} {j sz m : Nat} {p s : SVal} (ho : o.op = .indexAddr t x ix) (hix : ev ix = some (.int k n)) (hx : ev x = some p) (ht : under E t = some (.array m elem)) (hsz : cj E elem = some sz) (hn : n = (j : Int)) (hj : j < m)
  (hp : padd p (j * sz) = some s) : bg P o ev st s st :=
 ⟨by simp [ho], Sta.refl _, fun {c w} hr _ _ {e} he => by
  have hu := bu hE ht
  obtain ⟨i, _, rfl, hs⟩ := bE hE hsz
  subst hn
  have hi : e ix = .int k j := he ix (by simp [ho, Op.operands]) _ hix
  obtain ⟨b, off, h⟩ := xS hp (he x (by simp [ho, Op.operands]) _ hx)
  have : execOp e o = (do pure (.value (← Instr.indexAt t (e x) (e ix))) : Sem Next) := by simp only [execOp, ho]
  rcases h with ⟨h4, h5⟩ | ⟨⟨a, h4⟩, h5⟩
  ·rw [h4, hi] at this
   exact cZ.val this (Ran.same hr (gI (cap := 0) hu (.inl ⟨rfl, rfl⟩) hs hj w) (by rw [eS]; exact h5))
  ·rw [h4, hi] at this
   exact cZ.val this (Ran.same hr (gI (cap := 0) hu (.inl ⟨rfl, rfl⟩) hs hj w) (h5 _))⟩
theorem sY (hE : a7 P E) {t : TypeId} {x ix : Operand} {k : IntKind} {n : Int} {j : Nat} {l : List UInt8} {b : UInt8} (ho : o.op = .index t x ix) (hix : ev ix = some (.int k n)) (hx : ev x = some (.str l)) (ht : under E t = some .string) (hn : n = (j : Int)) (hb : l[j]? = some b) : bg P o ev st (.int .u8 b.toNat) st :=
 ⟨by simp [ho], Sta.refl _, fun {c w} hr _ _ {e} he => by
  have hu := bu hE ht
  subst hn
  have hi : e ix = .int k j := he ix (by simp [ho, Op.operands]) _ hix
  have hs : e x = .string ⟨l.toArray⟩ := he x (by simp [ho, Op.operands]) _ hx
  refine cZ.val (S := Instr.index t (e x) (e ix)) (by simp only [execOp, ho]) (Ran.same hr (v := .int .u8 b.toNat) ?_ rfl)
  have hb : (⟨l.toArray⟩ : ByteArray)[j]? = some b := by
   have h5 := (List.getElem?_eq_some_iff.1 hb).1
   rw [getElem?_pos (⟨l.toArray⟩ : ByteArray) j h5]
   obtain ⟨_, h9⟩ := List.getElem?_eq_some_iff.1 hb
   exact congrArg some h9
  have hj : (0 : Int) ≤ (j : Int) := by omega
  simp only [hi, hs, Instr.index, Sem.run_bind, asIntOf, Sem.run_pure, Result.andThen_ok, run_underlying hu, hj, if_true, Int.toNat_natCast, hb]⟩
theorem s7 (hE : a7 P E) {t elem : TypeId} {x ix : Operand} {k : IntKind} {n : Int} {j m sz : Nat} {l : List SVal} {s : SVal} (ho : o.op = .index t x ix) (hix : ev ix = some (.int k n)) (hx : ev x = some (.agg l)) (ht : under E t = some (.array m elem)) (hsz : cj E elem = some sz) (hn : n = (j : Int)) (hj : j < m)
  (hs : qR E elem l (j * sz) = some s) : bg P o ev st s st :=
 ⟨by simp [ho], Sta.refl _, fun {c w} hr _ _ {e} he => by
  have hu := bu hE ht
  obtain ⟨i, _, rfl, hsr⟩ := bE hE hsz
  subst hn
  have hi : e ix = .int k j := he ix (by simp [ho, Op.operands]) _ hix
  obtain ⟨vs, h1, h2⟩ := he x (by simp [ho, Op.operands]) _ hx
  obtain ⟨v, h3, h4⟩ := ff hE hs h1
  refine cZ.val (S := Instr.index t (e x) (e ix)) (by simp only [execOp, ho]) (Ran.same hr (v := v) ?_ h3)
  have hj : (0 : Int) ≤ (j : Int) ∧ (j : Int) < (m : Int) := by omega
  simp only [hi, h2, Instr.index, Sem.run_bind, asIntOf, Sem.run_pure, Result.andThen_ok, run_underlying hu, hj, and_self, if_true, hsr, Int.toNat_natCast]
  exact h4 w⟩
theorem xl {x : Operand} {i : Nat} {l : List SVal} {s : SVal} (ho : o.op = .extract x i) (hx : ev x = some (.tup l)) (hs : l[i]? = some s) : bg P o ev st s st :=
 ⟨by simp [ho], Sta.refl _, fun {c w} hr _ _ {e} he => by
  obtain ⟨vs, h1, h2⟩ := he x (by simp [ho, Op.operands]) _ hx
  obtain ⟨u, h3, h4⟩ := h1.get hs
  exact cZ.same hr (v := u) (by simp [execOp, ho, h2, Instr.extract, h3]) h4⟩
theorem vn (hE : a7 P E) {a b : TypeId} {x : Operand} {k k' k2 : IntKind} {n : Int} (ho : o.op = .convert a b x) (hx : ev x = some (.int k n)) (ha : under E a = some (.int k2)) (hb : under E b = some (.int k')) (hr : InR k' n) : bg P o ev st (.int k' n) st :=
 ⟨by simp [ho], Sta.refl _, fun {c w} hrep _ _ {e} he => by
  have hd : e x = .int k n := he x (by simp [ho, Op.operands]) _ hx
  refine cZ.val (S := convert a b (e x)) (by simp only [execOp, ho]) (Ran.same hrep (v := .int k' n) ?_ rfl)
  simp [hd, convert, run_underlying (bu hE ha), run_underlying (bu hE hb), Conv.intToInt, hr.wrap]⟩
theorem vk (hE : a7 P E) {a b : TypeId} {x : Operand} {l : List UInt8} (ho : o.op = .convert a b x) (hx : ev x = some (.str l)) (ha : under E a = some .string) (hb : under E b = some .string) : bg P o ev st (.str l) st :=
 ⟨by simp [ho], Sta.refl _, fun {c w} hrep _ _ {e} he => by
  have hd : e x = .string ⟨l.toArray⟩ := he x (by simp [ho, Op.operands]) _ hx
  refine cZ.val (S := convert a b (e x)) (by simp only [execOp, ho]) (Ran.same hrep (v := .string ⟨l.toArray⟩) ?_ rfl)
  simp [hd, convert, run_underlying (bu hE ha), run_underlying (bu hE hb)]⟩
noncomputable def evs (ev : Evl) (l : List Operand) : Option (List SVal) :=
 List.rec (motive := fun _ => Option (List SVal)) (some []) (fun x _ ih => bnd (ev x) fun v => bnd ih fun l => some (v :: l)) l
noncomputable def yO (ev : Evl) (l : List (Nat × Operand)) : Option (List (Nat × SVal)) :=
 List.rec (motive := fun _ => Option (List (Nat × SVal))) (some []) (fun p _ ih => bnd (ev p.2) fun v => bnd ih fun l => some ((p.1, v) :: l)) l
def sH (c : Ctx) : List (Nat × SVal) → List (Nat × Value) → Prop
 | [], [] => True
 | p :: ps, q :: qs => q.1 = p.1 ∧ Den c p.2 q.2 ∧ sH c ps qs
 | _, _ => False
theorem kX {e : Operand → Value} {c : Ctx} : ∀ {l : List Operand} {ss : List SVal}, (∀ x, x ∈ l → ∀ s, ev x = some s → Den c s (e x)) → evs ev l = some ss → aM c ss (l.map e)
 | [], ss, _, h => by cases h; rfl
 | x :: l, ss, he, h => by
  have h : bnd (ev x) (fun v => bnd (evs ev l) fun l => some (v :: l)) = some ss := h
  rw [aU] at h
  obtain ⟨v, h1, h⟩ := h
  rw [aU] at h
  obtain ⟨vs, h2, h3⟩ := h
  cases h3
  exact ⟨_, _, he x (.head _) v h1, kX (fun y hy => he y (.tail _ hy)) h2, rfl⟩
theorem rG {e : Operand → Value} {c : Ctx} : ∀ {l : List (Nat × Operand)} {ss : List (Nat × SVal)}, (∀ p ∈ l, ∀ s, ev p.2 = some s → Den c s (e p.2)) → yO ev l = some ss → sH c ss (l.map fun p => (p.1, e p.2))
 | [], ss, _, h => by cases h; trivial
 | p :: l, ss, he, h => by
  have h : bnd (ev p.2) (fun v => bnd (yO ev l) fun l => some ((p.1, v) :: l)) = some ss := h
  rw [aU] at h
  obtain ⟨v, h1, h⟩ := h
  rw [aU] at h
  obtain ⟨vs, h2, h3⟩ := h
  cases h3
  exact ⟨rfl, he _ (.head _) v h1, rG (fun y hy => he y (.tail _ hy)) h2⟩
theorem kM {α β : Type} (f : α → β) (a : Array α) : (a.toList.map f).toArray = a.map f := Array.ext' (by simp)
theorem vi {fn : Fn} {first cap : Array Operand} {a b : List SVal} (ho : o.op = .makeFunc fn first cap) (hf : cY fn = true) (ha : evs ev first.toList = some a) (hb : evs ev cap.toList = some b) : bg P o ev st (.func fn a b) st :=
 ⟨by simp [ho], Sta.refl _, fun {c w} hr _ _ {e} he => by
  have h1 := kX (e := e) (c := c) (fun y hy => he y (by rw [ho]; simp only [Op.operands, Array.toList_append]; exact List.mem_append_left _ hy)) ha
  have h2 := kX (e := e) (c := c) (fun y hy => he y (by rw [ho]; simp only [Op.operands, Array.toList_append]; exact List.mem_append_right _ hy)) hb
  refine cZ.same hr (v := .func fn (first.map e) (cap.map e)) (by simp [execOp, ho, Instr.makeFunc]) ?_
  cases fn <;> first
   | exact ⟨_, _, h1, h2, by rw [kM, kM]⟩
   | cases hf⟩
noncomputable def places (E : Env) : List Field → Option (List (Nat × Nat))
 | [] => some []
 | f :: r => bnd (cj E f.type) fun s => bnd (places E r) fun l => some ((f.offset, s) :: l)
noncomputable def oS (place : Nat → Option (Nat × Nat)) (cells : List SVal) (ps : List (Nat × SVal)) : Option (List SVal) :=
 List.rec (motive := fun _ => List SVal → Option (List SVal)) some
  (fun p _ ih cells => bnd (place p.1) fun q => whn (Nat.beq (bD p.2).length q.2) (whn (Nat.ble (q.1 + (bD p.2).length) cells.length) (ih (over cells q.1 (bD p.2))))) ps cells
theorem yr : ∀ (vs : List Value) (k : Nat) (cs : Array Value) (off : Nat), off + k + vs.length ≤ cs.size →
  (vs.zipIdx k).foldl (fun cs p => cs.setIfInBounds (off + p.2) p.1) cs = (cs.toList.take (off + k) ++ (vs ++ cs.toList.drop (off + k + vs.length))).toArray
 | [], k, cs, off, h => by simp
 | v :: vs, k, cs, off, h => by
  rw [List.zipIdx_cons, List.foldl_cons, yr vs (k + 1) _ off (by simp at h ⊢; omega)]
  simp only [List.length_cons] at h
  refine congrArg List.toArray ?_
  simp only [Array.toList_setIfInBounds]
  rw [show off + (k + 1) = off + k + 1 from by omega, List.take_add_one, List.take_set_of_le (by omega), List.drop_set_of_lt (by omega)]
  rw [List.getElem?_set_self (by simp; omega)]
  simp [Nat.add_assoc, Nat.add_comm 1]
theorem over_den {c : Ctx} {cells v : List SVal} {vs us : List Value} {off : Nat} (h : off + v.length ≤ cells.length) (hd : aM c cells vs) (hv : aM c v us) : aM c (over cells off v) (vs.take off ++ (us ++ vs.drop (off + v.length))) := by
 rw [mA _ _ _ h]
 exact aM.append.2 ⟨_, _, hd.take off, aM.append.2 ⟨_, _, hv, hd.drop _, rfl⟩, rfl⟩
theorem pP {c : Ctx} (pl : Nat → Option (Nat × Nat)) : ∀ {ps : List (Nat × SVal)} {us : List (Nat × Value)} {cells r : List SVal} {vs : List Value}, oS pl cells ps = some r → sH c ps us → aM c cells vs →
  ∃ rs, Instr.fill pl vs.toArray us = some rs.toArray ∧ aM c r rs
 | [], us, cells, r, vs, h, hp, hd => by
  cases us with
  | nil => cases h; exact ⟨vs, rfl, hd⟩
  | cons q qs => exact hp.elim
 | p :: ps, us, cells, r, vs, h, hp, hd => by
  cases us with
  | nil => exact hp.elim
  | cons q qs =>
   obtain ⟨i, u⟩ := q
   obtain ⟨e1, e2, hp⟩ := hp
   simp only at e1 e2
   subst e1
   have h : bnd (pl p.1) (fun q => whn (Nat.beq (bD p.2).length q.2) (whn (Nat.ble (q.1 + (bD p.2).length) cells.length) (oS pl (over cells q.1 (bD p.2)) ps))) = some r := h
   rw [aU] at h
   obtain ⟨⟨off, size⟩, h1, h⟩ := h
   rw [dJ, dJ] at h
   obtain ⟨h2, h5, h4⟩ := h
   have h5 : off + (bD p.2).length ≤ cells.length := cr h5
   have hs := di e2
   have hl := hs.length
   have hlv := hd.length
   have h2 : (bD p.2).length = size := beq_true h2
   have hl : u.cells.size = (bD p.2).length := by simpa using hl
   obtain ⟨rs, h7, h8⟩ := pP pl h4 hp (over_den h5 hd hs)
   refine ⟨rs, ?_, h8⟩
   rw [Instr.fill, h1]
   simp only
   rw [if_neg (by simp; omega), ← h7]
   congr 1
   rw [← Array.foldl_toList, Array.toList_zipIdx]
   have := yr u.cells.toList 0 vs.toArray off (by simp; omega)
   simp only [Nat.add_zero, Array.length_toList, hl] at this
   exact this
noncomputable def pR (E : Env) (z : List SVal) (ps : List (Nat × SVal)) : TypeDesc → Option SVal
 | .struct fs => bnd (places E fs.toList) fun pl => bnd (oS (fun i => pl[i]?) z ps) fun l => some (.agg l)
 | .array _ elem => bnd (cj E elem) fun size => bnd (oS (fun i => some (i * size, size)) z ps) fun l => some (.agg l)
 | _ => none
theorem tK (hE : a7 P E) {t : TypeId} {parts : Array (Nat × Operand)} {z s : SVal} {d : TypeDesc} {ps : List (Nat × SVal)} (ho : o.op = .build t parts) (hz : fT E t = some z) (hd : under E t = some d) (hps : yO ev parts.toList = some ps) (h : pR E (bD z) ps d = some s) : bg P o ev st s st :=
 ⟨by simp [ho], Sta.refl _, fun {c w} hr _ _ {e} he => by
  have hp := rG (e := e) (c := c) (fun p hp => he p.2 (by rw [ho]; simp only [Op.operands, List.mem_map]; exact ⟨p, hp, rfl⟩)) hps
  obtain ⟨it, zv, hit, hzv, hdz, _⟩ := dv hE hz
  have hu := bu hE hd
  have hs := di (hdz c)
  have pl : ∀ (fs : List Field) (l : List (Nat × Nat)), places E fs = some l → fs.mapM (fun f => (P.info? f.type).map fun i => (f.offset, i.size)) = some l := by
   intro fs
   induction fs with
   | nil => intro l hl; cases hl; rfl
   | cons f fs ih =>
    intro l hl
    unfold places at hl
    rw [aU] at hl
    obtain ⟨n, h1, hl⟩ := hl
    rw [aU] at hl
    obtain ⟨l', h2, h3⟩ := hl
    cases h3
    obtain ⟨i, hi, rfl, _⟩ := bE hE h1
    simp [List.mapM_cons, hi, ih l' h2]
  have fin : ∃ v, Den c s v ∧ (Instr.build t (parts.toList.map fun p => (p.1, e p.2)).toArray).run P w = .ok v w := by
   unfold pR at h
   split at h
   ·rename_i fs
    rw [aU] at h
    obtain ⟨l, h1, h⟩ := h
    rw [aU] at h
    obtain ⟨r, h2, h3⟩ := h
    cases h3
    obtain ⟨rs, h4, h5⟩ := pP _ h2 hp hs
    refine ⟨.agg rs.toArray, ⟨rs, h5, rfl⟩, run_build w t _ _ ?_⟩
    simp only [Program.built, hit, hu, hzv, pl _ _ h1]
    simpa using h4
   ·rename_i n e
    rw [aU] at h
    obtain ⟨size, h1, h⟩ := h
    rw [aU] at h
    obtain ⟨r, h2, h3⟩ := h
    cases h3
    obtain ⟨ie, hie, rfl, _⟩ := bE hE h1
    obtain ⟨rs, h4, h5⟩ := pP _ h2 hp hs
    refine ⟨.agg rs.toArray, ⟨rs, h5, rfl⟩, run_build w t _ _ ?_⟩
    simp only [Program.built, hit, hu, hzv, hie]
    simpa using h4
   ·cases h
  obtain ⟨v, h1, h2⟩ := fin
  refine cZ.same hr (v := v) ?_ h1
  simp only [execOp, ho, Sem.run_bind]
  rw [kM] at h2
  rw [h2]
  rfl⟩
end
theorem fz_new {c : Ctx} {H : eT} {w : World} (hr : Rep c H w) {b : Nat} (hb : w.heap.size ≤ b) (i : Nat) (v : Value) : c.fz b i ≠ some v := fun h => by
 have := yI hr h
 omega
theorem eB (w : World) (o : Obj) : (w.alloc o).heap[w.heap.size]? = some o := by show (w.heap.push o)[w.heap.size]? = _; simp
theorem newBox {st : St} {c : Ctx} {w : World} (hr : Rep c st.look w) (hf : c.ρ st.next = none) (hwf : Wf st) {cs : List SVal} {arr : Array Value} (hd : aM c cs arr.toList) (e : TypeId) :
  Rep (fO c st.next (.box w.heap.size)) (st.fresh (.cells cs)).look (w.alloc (.cells arr e)) ∧ Step st.next (st.fresh (.cells cs)).next c st.look w (fO c st.next (.box w.heap.size)) (st.fresh (.cells cs)).look (w.alloc (.cells arr e)) :=
 fm hr hf hwf (cE.alloc w _) (fun b hb => by cases hb; exact Nat.le_refl _)
  ⟨arr, e, eB w _, aM.le (ng _ hf) _ _ hd, fun i v => fz_new hr (Nat.le_refl _) i v⟩
section
variable {P : Program} {E : Env} {o : Oper} {ev : Evl} {st : St}
theorem qu (hnd : ∀ d, o.op ≠ .defer d) {s : SVal} {elem : TypeId} {S : (Operand → Value) → World → Sem Value} (hS : ∀ e w, execOp e o = (do pure (.value (← S e w)) : Sem Next))
  (h : ∀ {c : Ctx} {w : World} {e : Operand → Value}, (∀ x ∈ o.op.operands.toList, ∀ s, ev x = some s → Den c s (e x)) → ∃ v, Den c s v ∧ (S e w).run P w = (do pure (.pointer (some (← newVar elem v))) : Sem Value).run P w) : bg P o ev st (.ptr st.next 0) (st.fresh (.cells (bD s))) :=
 ⟨hnd, cO _ _, fun {c w} hr hwf hf {e} he => by
  have hk : c.ρ st.next = none := hf _ (Nat.le_refl _) (Nat.lt_succ_self _)
  obtain ⟨v, hd, hrun⟩ := h (w := w) he
  obtain ⟨h1, h2⟩ := newBox hr hk hwf (di hd) elem
  refine cZ.val (hS e w) ⟨_, .pointer (some ⟨w.heap.size, 0, none⟩), _, ?_, ⟨_, b8 _ _ _, rfl⟩, h1, h2⟩
  rw [hrun]
  simp [newVar, newRow]⟩
theorem sem_alloc (hE : a7 P E) {elem : TypeId} {z : SVal} (ho : o.op = .alloc elem) (hz : fT E elem = some z) : bg P o ev st (.ptr st.next 0) (st.fresh (.cells (bD z))) :=
 qu (elem := elem) (S := fun _ _ => Instr.alloc elem true (.tuple #[])) (by simp [ho]) (fun e w => by simp only [execOp, ho]) fun {c w e} he => by
  obtain ⟨i, zv, _, _, hd, hrun⟩ := dv hE hz
  exact ⟨zv, hd c, by simp only [Instr.alloc, Sem.run_bind, hrun w, Result.andThen_ok]⟩
theorem sem_box {elem : TypeId} {x : Operand} {s : SVal} (ho : o.op = .box elem x) (hx : ev x = some s) : bg P o ev st (.ptr st.next 0) (st.fresh (.cells (bD s))) :=
 qu (elem := elem) (S := fun e _ => Instr.box elem (e x)) (by simp [ho]) (fun e w => by simp only [execOp, ho]) fun {c w e} he => ⟨e x, he x (by simp [ho, Op.operands]) _ hx, rfl⟩
theorem xh {t : TypeId} (ho : o.op = .makeMap t none) : bg P o ev st (.map st.next) (st.fresh (.map [])) :=
 ⟨by simp [ho], cO _ _, fun {c w} hr hwf hf {e} he => by
  have hk : c.ρ st.next = none := hf _ (Nat.le_refl _) (Nat.lt_succ_self _)
  obtain ⟨h1, h2⟩ := fm (o := .map []) (l := .box w.heap.size) hr hk hwf (cE.alloc w (.map #[] 0)) (fun b hb => by cases hb; exact Nat.le_refl _) ⟨#[], 0, eB w _, rfl, fun i p hp => by simp at hp⟩
  refine cZ.val (S := Instr.makeMap t none) (by simp only [execOp, ho]; rfl) ⟨_, .map (some w.heap.size), _, ?_, ⟨_, b8 _ _ _, rfl⟩, h1, h2⟩
  simp [Instr.makeMap]⟩
end
theorem gQ : ∀ {α : Type} {sz : Nat} {rows : List (List α)} {i j : Nat} {row : List α}, (∀ r ∈ rows, r.length = sz) → rows[i]? = some row → j < sz → rows.flatten[i * sz + j]? = row[j]?
 | α, sz, [], i, j, row, h, hr, _ => by simp at hr
 | α, sz, r :: rows, 0, j, row, h, hr, hj => by
  simp only [List.getElem?_cons_zero, Option.some.injEq] at hr
  subst hr
  have := h r (.head _)
  rw [List.flatten_cons, Nat.zero_mul, Nat.zero_add, List.getElem?_append_left (by omega)]
 | α, sz, r :: rows, i + 1, j, row, h, hr, hj => by
  have hl := h r (.head _)
  rw [List.flatten_cons, List.getElem?_append_right (by rw [hl, Nat.add_mul]; omega), hl, show (i + 1) * sz + j - sz = i * sz + j from by rw [Nat.add_mul]; omega]
  exact gQ (fun x hx => h x (.tail _ hx)) (by simpa using hr) hj
theorem eJ : ∀ {α : Type} {sz : Nat} {rows : List (List α)}, (∀ r ∈ rows, r.length = sz) → rows.flatten.length = rows.length * sz
 | α, sz, [], _ => by simp
 | α, sz, r :: rows, h => by
  rw [List.flatten_cons, List.length_append, eJ (fun x hx => h x (.tail _ hx)), h r (.head _), List.length_cons, Nat.add_mul]
  omega
theorem dq.len {c : Ctx} {rows : List (List SVal)} {sz : Nat} {arr : Array Value} (h : dq c rows sz arr) : ∀ r ∈ rows, r.length = sz := fun r hr => by
 obtain ⟨i, hi⟩ := List.getElem?_of_mem hr
 exact (h i r hi).1
theorem dq.flat {c : Ctx} {rows : List (List SVal)} {sz : Nat} {arr : Array Value} (h : dq c rows sz arr) {q : Nat} {s : SVal} (hq : rows.flatten[q]? = some s) : ∃ v, arr[q]? = some v ∧ v.oneCell' = true ∧ Den c s v := by
 have hlen := h.len
 have hlt : q < rows.length * sz := by rw [← eJ hlen]; exact (List.getElem?_eq_some_iff.1 hq).1
 have hsz : 0 < sz := Nat.pos_of_ne_zero fun e => by rw [e] at hlt; omega
 have hi : q / sz < rows.length := (Nat.div_lt_iff_lt_mul hsz).2 hlt
 have hj : q % sz < sz := Nat.mod_lt _ hsz
 have hdm : q / sz * sz + q % sz = q := by rw [Nat.mul_comm]; exact Nat.div_add_mod q sz
 have := gQ hlen (List.getElem?_eq_getElem hi) hj
 rw [hdm, hq] at this
 obtain ⟨v, h1, h2, h3⟩ := (h (q / sz) _ (List.getElem?_eq_getElem hi)).2 (q % sz) s this.symm
 exact ⟨v, by rw [← hdm]; exact h1, h2, h3⟩
theorem dq.of {c : Ctx} {rows : List (List SVal)} {sz : Nat} {arr : Array Value} (hlen : ∀ r ∈ rows, r.length = sz) (h : ∀ (q : Nat) (s : SVal), rows.flatten[q]? = some s → ∃ v, arr[q]? = some v ∧ v.oneCell' = true ∧ Den c s v) : dq c rows sz arr := fun i row hr =>
 ⟨hlen row (List.mem_of_getElem? hr), fun j s hs => h _ s (by rw [gQ hlen hr (by rw [← hlen row (List.mem_of_getElem? hr)]; exact (List.getElem?_eq_some_iff.1 hs).1)]; exact hs)⟩
theorem dq.denL {c : Ctx} {rows : List (List SVal)} {sz : Nat} {arr : Array Value} {n : Nat} (h : dq c rows sz arr) (hn : rows.length = n) : aM c rows.flatten (arr.toList.take (n * sz)) ∧ (arr.toList.take (n * sz)).length = n * sz ∧ ∀ u ∈ arr.toList.take (n * sz), u.oneCell' = true := by
 subst hn
 have hlen := eJ h.len
 have hsz : rows.length * sz ≤ arr.size := by
  rcases Nat.eq_zero_or_pos (rows.length * sz) with e | e
  ·omega
  ·have hq : rows.length * sz - 1 < rows.flatten.length := by omega
   obtain ⟨v, h1, _⟩ := h.flat (List.getElem?_eq_getElem hq)
   have := (Array.getElem?_eq_some_iff.1 h1).1
   omega
 refine ⟨aM.lN (by simp [hlen]; omega) fun i s hs => ?_, by simp; omega, fun u hu => ?_⟩
 ·have hi : i < rows.length * sz := by rw [← hlen]; exact (List.getElem?_eq_some_iff.1 hs).1
  obtain ⟨v, h1, _, h2⟩ := h.flat hs
  exact ⟨v, by rw [List.getElem?_take, if_pos hi]; simpa using h1, h2⟩
 ·obtain ⟨i, hi⟩ := List.getElem?_of_mem hu
  have hlt : i < rows.length * sz := by have := (List.getElem?_eq_some_iff.1 hi).1; simp at this; omega
  obtain ⟨v, h1, h2, _⟩ := h.flat (List.getElem?_eq_getElem (show i < rows.flatten.length by omega))
  rw [List.getElem?_take, if_pos hlt, Array.getElem?_toList, h1] at hi
  cases hi
  exact h2
theorem bp.flat {c : Ctx} {b size : Nat} : ∀ {rows : List (List SVal)} {i : Nat}, bp c b size rows i → (∀ r ∈ rows, r.length = size) ∧ ∀ (q : Nat) (s : SVal), rows.flatten[q]? = some s → ∃ u, c.fz b (i + q) = some u ∧ u.oneCell' = true ∧ Den c s u
 | [], _, _ => ⟨fun r h => absurd h (List.not_mem_nil), fun q s h => absurd h (by simp)⟩
 | row :: r, i, ⟨h1, h2, h3⟩ => by
  obtain ⟨h4, h5⟩ := bp.flat h3
  refine ⟨fun x hx => by rcases List.mem_cons.1 hx with rfl | hx; exact h1; exact h4 x hx, fun q s hq => ?_⟩
  rw [List.flatten_cons] at hq
  by_cases e : q < row.length
  ·rw [List.getElem?_append_left e] at hq
   exact h2.get hq
  ·rw [List.getElem?_append_right (by omega)] at hq
   obtain ⟨u, h6, h7⟩ := h5 _ s hq
   exact ⟨u, by rw [← h6]; congr 1; omega, h7⟩
theorem fW {w : World} {b : Nat} {arr : Array Value} {e : TypeId} {f : Nat × Nat} (h : w.heap[b]? = some (.cells arr e f)) (i : Nat) : w.cell? ⟨b, i, none⟩ = arr[i]? := by simp [World.cell?, h]
inductive cH (st : St) : SVal → List (List SVal) → Prop where
 | nil : cH st .az []
 | lst {f : Bool} {rows : List (List SVal)} : cH st (.lst f rows) rows
 | own {k s m : Nat} {rows : List (List SVal)} {z : Bool} : st.look k = some (.row m rows s z) → cH st (.own k s) rows
theorem cH.spec {st : St} {x : SVal} {rows : List (List SVal)} (h : cH st x rows) {c : Ctx} {w : World} (hr : Rep c st.look w) {u : Value} (hx : Den c x u) {sz : Nat} (hsz : ∀ r ∈ rows, r.length = sz) :
  ∃ a cap, u = .slice a rows.length cap ∧ rows.length ≤ cap ∧ ∃ news, aM c rows.flatten news ∧ news.length = rows.length * sz ∧ (∀ v ∈ news, v.oneCell' = true) ∧
   (rows = [] ∨ ∃ b base, a = some ⟨b, base, none⟩ ∧ ∀ j v, news[j]? = some v → w.cell? ⟨b, base + j, none⟩ = some v) := by
 cases h with
 | nil => cases hx; exact ⟨none, 0, rfl, Nat.le_refl _, [], rfl, by simp, fun v hv => (by cases hv), .inl rfl⟩
 | lst =>
  rcases hx with ⟨rfl, a, cap, rfl, _⟩ | ⟨b, base, size, cap, rfl, h2, _, h4⟩
  ·exact ⟨a, cap, rfl, Nat.zero_le _, [], rfl, by simp, fun v hv => (by cases hv), .inl rfl⟩
  ·rcases Nat.eq_zero_or_pos rows.length with e | e
   ·have := List.length_eq_zero_iff.1 e
    subst this
    exact ⟨_, cap, rfl, Nat.zero_le _, [], rfl, by simp, fun v hv => (by cases hv), .inl rfl⟩
   ·obtain ⟨h5, h6⟩ := h4.flat
    have hs : size = sz := by
     rw [← h5 _ (List.getElem_mem e), hsz _ (List.getElem_mem e)]
    subst hs
    have hlen := eJ h5
    have key : ∀ q, q < rows.length * size → ∃ s v, rows.flatten[q]? = some s ∧ w.cell? ⟨b, base + q, none⟩ = some v ∧ v.oneCell' = true ∧ Den c s v := fun q hq => by
     have hq' : q < rows.flatten.length := by omega
     obtain ⟨v, h7, h8, h9⟩ := h6 q _ (List.getElem?_eq_getElem hq')
     obtain ⟨arr, ee, f, h10, h11⟩ := hr.fz _ _ _ h7
     exact ⟨_, v, List.getElem?_eq_getElem hq', by rw [fW h10]; exact h11, h8, h9⟩
    refine ⟨_, cap, rfl, h2, (List.range (rows.length * size)).map fun q => (w.cell? ⟨b, base + q, none⟩).getD undef, aM.lN (by simp [hlen]) fun i s hs => ?_, by simp, fun v hv => ?_, .inr ⟨b, base, rfl, fun j v hv => ?_⟩⟩
    ·have hi : i < rows.length * size := by rw [← hlen]; exact (List.getElem?_eq_some_iff.1 hs).1
     obtain ⟨s', v, h7, h8, _, h9⟩ := key i hi
     rw [h7] at hs
     cases hs
     exact ⟨v, by simp [hi, h8], h9⟩
    ·obtain ⟨q, hq, rfl⟩ := List.mem_map.1 hv
     obtain ⟨s', v, h7, h8, h9, _⟩ := key q (List.mem_range.1 hq)
     rw [h8]; exact h9
    ·have hj : j < rows.length * size := by have := (List.getElem?_eq_some_iff.1 hv).1; simpa using this
     obtain ⟨s', v', h7, h8, h9, _⟩ := key j hj
     simp [hj, h8] at hv
     rw [h8, hv]
 | own hk =>
  obtain ⟨_, ob, st0, sz0, u0, h1, h2, h3⟩ := hx
  obtain ⟨rfl, rfl, h4⟩ := qD hr hk h1
  cases h3 rfl
  rcases h4 with ⟨rfl, rfl, a, rfl⟩ | ⟨b, arr, ee, cap, rfl, h5⟩
  ·exact ⟨a, 0, rfl, Nat.zero_le _, [], rfl, by simp, fun v hv => (by cases hv), .inl rfl⟩
  ·have hl := h5.elems.len
   rcases Nat.eq_zero_or_pos rows.length with e | e
   ·have := List.length_eq_zero_iff.1 e
    subst this
    exact ⟨_, cap, h5.val, h5.fits, [], rfl, by simp, fun v hv => (by cases hv), .inl rfl⟩
   ·have hs : sz0 = sz := by rw [← hl _ (List.getElem_mem e), hsz _ (List.getElem_mem e)]
    subst hs
    obtain ⟨h6, h7, h8⟩ := h5.elems.denL rfl
    refine ⟨_, cap, h5.val, h5.fits, _, h6, h7, h8, .inr ⟨b, 0, rfl, fun j v hv => ?_⟩⟩
    rw [fW h5.cells, Nat.zero_add]
    rw [List.getElem?_take] at hv
    split at hv
    ·simpa using hv
    ·cases hv
theorem cH.src {st : St} {x : SVal} {rows : List (List SVal)} (h : cH st x rows) {P : Program} {c : Ctx} {w : World} (hr : Rep c st.look w) {u : Value} (hx : Den c x u) {sz : Nat} (hsz : ∀ r ∈ rows, r.length = sz) {tx e' : TypeId} (hk : P.underlying tx = some (.slice e')) :
  ∃ news, aM c rows.flatten news ∧ news.length = rows.length * sz ∧ Src P sz tx u rows.length news w := by
 obtain ⟨a, cap, rfl, h1, news, h2, h3, h4, h5⟩ := h.spec hr hx hsz
 refine ⟨news, h2, h3, ?_⟩
 rcases h5 with rfl | ⟨b, base, rfl, h5⟩
 ·have : news = [] := List.length_eq_zero_iff.1 (by rw [h3]; simp)
  subst this
  have run : ∀ w' : World, (Builtin.firstCells sz 0 (.slice a 0 cap)).run P w' = .ok #[] w' := fun w' => by
   cases a with
   | none => exact run_firstCells_none w' sz 0 0 cap
   | some a => exact run_firstCells_some w' sz 0 a 0 cap [] (by simp) (fun j u hu => by simp at hu)
  exact ⟨.inl ⟨e', hk⟩, fun _ => rfl, run w, run w.drew, by simp, fun _ h => by cases h⟩
 ·refine Src.ofSlice w hk _ _ _ news h3 (fun j v hv => ?_) h4
  rw [eS]
  exact h5 j v hv
theorem newRow {st : St} {c : Ctx} {w w' : World} (hr : Rep c st.look w) (hf : c.ρ st.next = none) (hwf : Wf st) (g : cE w w') {rows : List (List SVal)} {sz cap b : Nat} {arr : Array Value} {e : TypeId} (hb : w'.heap[b]? = some (.cells arr e (0, 0))) (hbn : w.heap.size ≤ b)
  (hsz : arr.size = cap * sz) (hfit : rows.length ≤ cap) (hel : dq c rows sz arr) :
  Rep (fO c st.next (.row (some b) 0 sz (.slice (some ⟨b, 0, none⟩) rows.length cap))) (st.fresh (.row sz rows 0 false)).look w' ∧
   Step st.next (st.fresh (.row sz rows 0 false)).next c st.look w (fO c st.next (.row (some b) 0 sz (.slice (some ⟨b, 0, none⟩) rows.length cap))) (st.fresh (.row sz rows 0 false)).look w' :=
 fm hr hf hwf g (fun b' hb' => by cases hb'; exact hbn) ⟨rfl, rfl, arr, e, cap, rfl, hb, hsz, hfit, hel.le (ng _ hf), fun i v hv => absurd hv (fz_new hr hbn i v)⟩
theorem fy {c : Ctx} {k s sz : Nat} {ob : Option Nat} {u : Value} (h : c.ρ k = some (.row ob s sz u)) (hu : ∃ a n cap, u = .slice a n cap) : Den c (.own k s) u := ⟨hu, ob, s, sz, u, h, Nat.le_refl _, fun _ => rfl⟩
def chunks (sz : Nat) : Nat → List SVal → List (List SVal)
 | 0, _ => []
 | n + 1, l => l.take sz :: chunks sz n (l.drop sz)
theorem oZ (sz : Nat) : ∀ (n : Nat) (l : List SVal), l.length = n * sz → (chunks sz n l).length = n ∧ (∀ r ∈ chunks sz n l, r.length = sz) ∧ (chunks sz n l).flatten = l
 | 0, l, h => by
  have : l = [] := List.length_eq_zero_iff.1 (by omega)
  subst this
  exact ⟨rfl, fun r hr => (by cases hr), rfl⟩
 | n + 1, l, h => by
  rw [Nat.add_mul, Nat.one_mul] at h
  obtain ⟨h1, h2, h3⟩ := oZ sz n (l.drop sz) (by simp; omega)
  refine ⟨by simp [chunks, h1], fun r hr => ?_, by simp [chunks, h3]⟩
  rcases List.mem_cons.1 hr with rfl | hr
  ·simp; omega
  ·exact h2 r hr
def eL : List SVal → Bool
 | [] => true
 | s :: r => rD s && eL r
theorem fJ : ∀ {l : List SVal}, eL l = true → oR l
 | [], _ => fun s hs => by cases hs
 | s :: r, h => by
  rw [eL, Bool.and_eq_true] at h
  intro t ht
  rcases List.mem_cons.1 ht with rfl | ht
  ·exact h.1
  ·exact fJ h.2 t ht
def ln (z : List SVal) : Nat → List SVal
 | 0 => []
 | n + 1 => z ++ ln z n
theorem fV (z : List SVal) : ∀ n, (ln z n).length = n * z.length
 | 0 => by simp [ln]
 | n + 1 => by rw [ln, List.length_append, fV z n, Nat.add_mul]; omega
theorem dh (z : List SVal) : ∀ n, ln z n = (List.replicate n z).flatten
 | 0 => rfl
 | n + 1 => by rw [ln, dh z n, List.replicate_succ, List.flatten_cons]
theorem tf {zs : Array Value} {n i : Nat} (h : i < n) : (madeCells zs n)[i]? = some (zs[i % zs.size]!) := by simp [madeCells, h]
theorem nq {c : Ctx} {z : List SVal} {zs : List Value} (hd : aM c z zs) (n : Nat) : aM c (ln z n) (madeCells zs.toArray (n * zs.length)).toList := by
 have hl := hd.length
 refine aM.lN (by simp [madeCells, fV, hl]) fun i s hs => ?_
 rw [dh] at hs
 have hi : i < n * z.length := by rw [← fV z n, dh]; exact (List.getElem?_eq_some_iff.1 hs).1
 have hz : 0 < z.length := Nat.pos_of_ne_zero fun e => by rw [e] at hi; omega
 have hlen : ∀ r ∈ List.replicate n z, r.length = z.length := fun r hr => by rw [(List.mem_replicate.1 hr).2]
 have hdm : i / z.length * z.length + i % z.length = i := by rw [Nat.mul_comm]; exact Nat.div_add_mod i z.length
 have hj : i % z.length < z.length := Nat.mod_lt _ hz
 have hq : i / z.length < n := (Nat.div_lt_iff_lt_mul hz).2 hi
 have := gQ (row := z) hlen (i := i / z.length) (by simp [hq]) hj
 rw [hdm, hs] at this
 obtain ⟨v, h1, h2⟩ := hd.get this.symm
 refine ⟨v, ?_, h2⟩
 rw [Array.getElem?_toList, tf (by rw [hl]; exact hi)]
 simp only [List.size_toArray, hl]
 rw [show i % z.length = i % z.length from rfl]
 simp [h1, getElem!_def]
section
variable {P : Program} {E : Env} {o : Oper} {ev : Evl} {st : St}
theorem lB {c : Ctx} {rows : List (List SVal)} {sz : Nat} {vs : List Value} (hlen : ∀ r ∈ rows, r.length = sz) (hd : aM c rows.flatten vs) (hf : oR rows.flatten) : dq c rows sz vs.toArray :=
 dq.of hlen fun q s hq => by
  obtain ⟨v, h1, h2⟩ := hd.get hq
  exact ⟨v, by simpa using h1, iy hf hd v (List.mem_of_getElem? h1), h2⟩
theorem sX (hE : a7 P E) {t elem : TypeId} {x y : Operand} {kl kc : IntKind} {li ci : Int} {l cp bytes size : Nat} {z : SVal} (ho : o.op = .makeSlice t x y) (hx : ev x = some (.int kl li)) (hy : ev y = some (.int kc ci)) (hl : li = (l : Int)) (hc : ci = (cp : Int)) (hlc : l ≤ cp) (hcb : cp < 1000000000)
  (ht : cJ E t = some elem) (hb : jX E elem = some bytes) (hsz : cj E elem = some size) (hz : fT E elem = some z) (hb2 : Nat.ble bytes 4096 = true) (hzs : Nat.beq (bD z).length size = true) (hf : eL (bD z) = true) :
  bg P o ev st (.own st.next 0) (st.fresh (.row size (List.replicate l (bD z)) 0 false)) :=
 ⟨by simp [ho], cO _ _, fun {c w} hr hwf hf' {e} he => by
  have hk : c.ρ st.next = none := hf' _ (Nat.le_refl _) (Nat.lt_succ_self _)
  have hu := bP hE ht
  obtain ⟨ie, hie, rfl, hsr⟩ := bE hE hsz
  obtain ⟨ie', zv, hie', hzv, hdz, hzr⟩ := dv hE hz
  rw [hie] at hie'
  cases hie'
  obtain ⟨ib, hib, rfl⟩ := fM hE hb
  rw [hie] at hib
  cases hib
  have hs := di (hdz c)
  have hzl := hs.length
  have hzs : (bD z).length = ie.size := beq_true hzs
  subst hl hc
  have hex : e x = .int kl l := he x (by simp [ho, Op.operands]) _ hx
  have hey : e y = .int kc cp := he y (by simp [ho, Op.operands]) _ hy
  have hzd := nq hs cp
  have hfz : oR (ln (bD z) cp) := fun s h => by
   rw [dh] at h
   obtain ⟨r, hr, hs⟩ := List.mem_flatten.1 h
   rw [(List.mem_replicate.1 hr).2] at hs
   exact fJ hf s hs
  have hel : dq c (List.replicate cp (bD z)) ie.size (madeCells zv.cells (cp * ie.size)) := by
   have := lB (c := c) (rows := List.replicate cp (bD z)) (sz := ie.size) (fun r hr => by rw [(List.mem_replicate.1 hr).2]; exact hzs) (by rw [← dh]; exact hzd) (by rw [← dh]; exact hfz)
   simpa [hzl, hzs] using this
  have hel2 : dq c (List.replicate l (bD z)) ie.size (madeCells zv.cells (cp * ie.size)) := fun i row hr => by
   have hi : i < l := by have := (List.getElem?_eq_some_iff.1 hr).1; simpa using this
   refine hel i row ?_
   rw [List.getElem?_replicate] at hr ⊢
   rw [if_pos hi] at hr
   rw [if_pos (by omega)]
   exact hr
  obtain ⟨g1, g2⟩ := newRow (cap := cp) (b := w.heap.size) hr hk hwf (cE.alloc w (.cells (madeCells zv.cells (cp * ie.size)) elem)) (eB w _) (Nat.le_refl _) (by simp [madeCells]) (by simpa using hlc) hel2
  refine cZ.val (S := Instr.makeSlice t (e x) (e y)) (by simp only [execOp, ho]) ⟨_, .slice (some ⟨w.heap.size, 0, none⟩) l cp, _, ?_, fy (by rw [b8, List.length_replicate]) ⟨_, _, _, rfl⟩, g1, g2⟩
  rw [hex, hey]
  have hb2 : ie.bytes ≤ 4096 := cr hb2
  have hbc : (ie.bytes : Int) * (cp : Int) ≤ 281474976710656 := by
   have : ie.bytes * cp ≤ 4096 * 1000000000 := Nat.mul_le_mul hb2 (by omega)
   have h2 : ((ie.bytes * cp : Nat) : Int) ≤ 281474976710656 := by omega
   rwa [Int.natCast_mul] at h2
  have := run_make (P := P) w t elem ie zv hu hie hzv kl kc l cp (by omega) (by omega) hbc (by omega)
  simpa using this⟩
end
section
variable {P : Program} {E : Env} {o : Oper} {ev : Evl} {st st' : St}
theorem cu {d : Go.Call} {b : Builtin} {ss : List SVal} {s : SVal} (ho : o.op = .call d) (hb : d.callee = .builtin b) (hev : evs ev d.args.toList = some ss) (hsta : Sta st st') {S : List Value → Sem Value}
  (hS : ∀ us consts, builtin b d.argTypes o.type consts us.toArray = (do pure (.value (← S us)) : Sem Next))
  (h : ∀ {c : Ctx} {w : World}, Rep c st.look w → Wf st → mc c st.next st'.next → ∀ {us : List Value}, aM c ss us → Ran P (S us) st st' s c w) : bg P o ev st s st' :=
 ⟨by simp [ho], hsta, fun {c w} hr hwf hf {e} he => by
  have mem : ∀ x, x ∈ d.args.toList → ∀ s, ev x = some s → Den c s (e x) := fun x hx => he x (by
   rw [ho]
   show x ∈ (_ ++ d.args).toList
   rw [Array.toList_append]
   exact List.mem_append_right _ hx)
  refine cZ.val (S := S (d.args.toList.map e)) ?_ (h hr hwf hf (kX mem hev))
  simp only [execOp, ho, resolve, hb, pure_bind, Go.invoke]
  rw [← hS]
  rw [kM]⟩
theorem two {c : Ctx} {a b : SVal} {us : List Value} (hd : aM c [a, b] us) : ∃ u v, Den c a u ∧ Den c b v ∧ us = [u, v] := by
 obtain ⟨u, l, h1, ⟨v, l', h2, h3, rfl⟩, rfl⟩ := hd
 cases h3
 exact ⟨u, v, h1, h2, rfl⟩
theorem one {c : Ctx} {a : SVal} {us : List Value} (hd : aM c [a] us) : ∃ u, Den c a u ∧ us = [u] := by
 obtain ⟨u, l, h1, h2, rfl⟩ := hd
 cases h2
 exact ⟨u, h1, rfl⟩
theorem app_room {t tx ty e : TypeId} {i : TypeInfo} (ht : P.underlying t = some (.slice e)) (hi : P.info? e = some i) {b off sLen sCap n : Nat} {x : Value} {news : List Value} {w w' : World} (hs : Src P i.size tx x n news w) (hroom : sLen + n ≤ sCap)
  (hst : (storeCells ⟨b, off + sLen * i.size, none⟩ news).run P w = .ok () w') :
  (Builtin.append_ #[t, tx] ty #[.slice (some ⟨b, off, none⟩) sLen sCap, x]).run P w = .ok (.slice (some ⟨b, off, none⟩) (sLen + n) sCap) w' := by
 rcases hs.kind with ⟨e', hk⟩ | hk <;> simp [Builtin.append_, run_underlying ht, run_underlying hk, Go.sizeOf, typeInfo, hi, hs.len, hroom, hs.cells, Addr.add_lit, hst]
theorem zx {t tx ty e : TypeId} {i : TypeInfo} (ht : P.underlying t = some (.slice e)) (hi : P.info? e = some i) {a : Option Addr} {sCap : Nat} {x : Value} {w : World} (hs : Src P i.size tx x 0 [] w) :
  (Builtin.append_ #[t, tx] ty #[.slice a 0 sCap, x]).run P w = .ok (.slice a 0 sCap) w := by
 rcases hs.kind with ⟨e', hk⟩ | hk <;> cases a <;> simp [Builtin.append_, run_underlying ht, run_underlying hk, Go.sizeOf, typeInfo, hi, hs.len, hs.cells] <;> rfl
theorem kR {need old bytes : Nat} (h : old < need) (hn : need ≤ 2147483648) (hb : bytes ≤ 4096) : Builtin.nextslicecap need old * bytes ≤ 281474976710656 := by
 refine growslice_fits h ?_
 have := Nat.mul_le_mul hn hb
 omega
theorem gP {zc : Array Value} {size need cap : Nat} {xs : List Value} (hz : zc.size = size) (hx : xs.length = need * size) (hc : need ≤ cap) : (xs.toArray ++ Builtin.zeroCells zc (cap - need)).size = cap * size := by
 rw [Array.size_append, size_zeroCells, List.size_toArray, hx, hz, ← Nat.add_mul]
 congr 1
 omega
structure AppT (P : Program) (E : Env) (d : Go.Call) (t tx e size : Nat) : Prop where
 ts : d.argTypes = #[t, tx]
 el : cJ E t = some e
 src : ∃ e', cJ E tx = some e'
 sz : cj E e = some size
 bytes : ∃ b, jX E e = some b ∧ Nat.ble b 4096 = true
 zero : ∃ z, fT E e = some z ∧ Nat.beq (bD z).length size = true
theorem gS {c : Ctx} {rows new : List (List SVal)} {sz : Nat} {olds news : List Value} {tail : Array Value} (h1 : aM c rows.flatten olds) (h2 : aM c new.flatten news) (o1 : ∀ v ∈ olds, v.oneCell' = true) (o2 : ∀ v ∈ news, v.oneCell' = true)
  (l1 : ∀ r ∈ rows, r.length = sz) (l2 : ∀ r ∈ new, r.length = sz) : dq c (rows ++ new) sz ((olds ++ news).toArray ++ tail) :=
 dq.of (fun r hr => (List.mem_append.1 hr).elim (l1 r) (l2 r)) fun q s hq => by
  rw [List.flatten_append] at hq
  obtain ⟨v, h3, h4⟩ := (aM.append.2 ⟨_, _, h1, h2, rfl⟩ : aM c (rows.flatten ++ new.flatten) (olds ++ news)).get hq
  have hlt := (List.getElem?_eq_some_iff.1 h3).1
  refine ⟨v, by rw [Array.getElem?_append_left (by simpa using hlt)]; simpa using h3, ?_, h4⟩
  rcases List.mem_append.1 (List.mem_of_getElem? h3) with h | h
  ·exact o1 v h
  ·exact o2 v h
theorem jB (hE : a7 P E) {d : Go.Call} {t tx e size : Nat} {a x : SVal} {new : List (List SVal)} (ho : o.op = .call d) (hb : d.callee = .builtin .append) (hev : evs ev d.args.toList = some [a, x]) (hT : AppT P E d t tx e size) (ha : a = .az ∨ a = .lst true [])
  (hx : cH st x new) (hl : ∀ r ∈ new, r.length = size) (hn : new.length ≤ 1000000000) : bg P o ev st (.own st.next 0) (st.fresh (.row size new 0 false)) :=
 cu (S := fun us => Builtin.append_ d.argTypes o.type us.toArray) ho hb hev (cO _ _) (fun us consts => rfl) fun {c w} hr hwf hf us hd => by
  obtain ⟨u, v, hu, hv, rfl⟩ := two hd
  have hk : c.ρ st.next = none := hf _ (Nat.le_refl _) (Nat.lt_succ_self _)
  obtain ⟨e', he'⟩ := hT.src
  obtain ⟨by4, hby, hb4⟩ := hT.bytes
  obtain ⟨z, hz, hzl⟩ := hT.zero
  have ht := bP hE hT.el
  obtain ⟨ie, hie, rfl, _⟩ := bE hE hT.sz
  obtain ⟨ib, hib, rfl⟩ := fM hE hby
  rw [hie] at hib
  cases hib
  obtain ⟨iz, zv, hiz, hzv, hdz, _⟩ := dv hE hz
  rw [hie] at hiz
  cases hiz
  have hzs : zv.cells.size = ie.size := by
   have := (di (hdz ⟨fun _ => none, fun _ _ => none⟩)).length
   have h5 := beq_true hzl
   simp at this
   omega
  obtain ⟨news, h1, h2, h3⟩ := hx.src (P := P) hr hv hl (bP hE he')
  have hbase : ∃ a0, u = .slice a0 0 0 := by
   rcases ha with rfl | rfl
   ·cases hu; exact ⟨none, rfl⟩
   ·rcases hu with ⟨_, a0, cap, rfl, hc⟩ | ⟨b, base, size, cap, rfl, _, hc, _⟩
    ·rw [hc rfl]; exact ⟨a0, rfl⟩
    ·rw [hc rfl]; exact ⟨_, rfl⟩
  obtain ⟨a0, rfl⟩ := hbase
  rw [hT.ts]
  rcases Nat.eq_zero_or_pos new.length with h0 | h0
  ·have := List.length_eq_zero_iff.1 h0
   subst this
   have hn0 : news = [] := List.length_eq_zero_iff.1 (by rw [h2]; simp)
   subst hn0
   obtain ⟨g1, g2⟩ := fm (o := .row ie.size [] 0 false) (l := .row none 0 ie.size (.slice a0 0 0)) hr hk hwf (cE.refl w) (fun b hb => by cases hb) ⟨rfl, rfl, rfl, a0, rfl⟩
   exact ⟨_, .slice a0 0 0, w, zx ht hie h3, fy (b8 _ _ _) ⟨_, _, _, rfl⟩, g1, g2⟩
  ·have hfirst : (Builtin.firstCells ie.size 0 (.slice a0 0 0)).run P w.drew = .ok ([] : List Value).toArray w.drew := by
    cases a0 with
    | none => exact run_firstCells_none w.drew ie.size 0 0 0
    | some a => exact run_firstCells_some w.drew ie.size 0 a 0 0 [] (by simp) (fun j u hu => by simp at hu)
   have hge := grownCap_ge w (0 + new.length) 0 e
   have hrun := run_append_grow_src w t tx o.type e ie zv ht hie hzv a0 0 0 [] hfirst v new.length news h3 (by omega) (by omega) (kR (by omega) (by omega) (cr hb4))
   have hsz := gP (xs := [] ++ news) (need := 0 + new.length) hzs (by simp [h2]) hge
   obtain ⟨g1, g2⟩ := newRow (w' := w.drew.alloc (.cells (([] ++ news).toArray ++ Builtin.zeroCells zv.cells (grownCap w (0 + new.length) 0 e - (0 + new.length))) e)) (cap := grownCap w (0 + new.length) 0 e) (b := w.heap.size) hr hk hwf
    ((cE.drew w _).trans (cE.alloc _ _)) (eB w.drew _) (Nat.le_refl _) hsz (rows := new) (by omega) (by
     have := gS (c := c) (rows := []) (olds := []) (tail := Builtin.zeroCells zv.cells (grownCap w (0 + new.length) 0 e - (0 + new.length))) rfl h1 (fun v hv => by cases hv) h3.one (fun r hr => by cases hr) hl
     simpa using this)
   rw [Nat.zero_add] at hrun g1 g2
   exact ⟨_, _, _, hrun, fy (b8 _ _ _) ⟨_, _, _, rfl⟩, g1, g2⟩
theorem pj (hE : a7 P E) {d : Go.Call} {t tx e size : Nat} {x : SVal} {rows new : List (List SVal)} (ho : o.op = .call d) (hb : d.callee = .builtin .append) (hev : evs ev d.args.toList = some [.lst true rows, x]) (hT : AppT P E d t tx e size)
  (hx : cH st x new) (hl : ∀ r ∈ new, r.length = size) (hlr : ∀ r ∈ rows, r.length = size) (h0 : 1 ≤ new.length) (hn : rows.length + new.length ≤ 1000000000) : bg P o ev st (.own st.next 0) (st.fresh (.row size (rows ++ new) 0 false)) :=
 cu (S := fun us => Builtin.append_ d.argTypes o.type us.toArray) ho hb hev (cO _ _) (fun us consts => rfl) fun {c w} hr hwf hf us hd => by
  obtain ⟨u, v, hu, hv, rfl⟩ := two hd
  have hk : c.ρ st.next = none := hf _ (Nat.le_refl _) (Nat.lt_succ_self _)
  obtain ⟨e', he'⟩ := hT.src
  obtain ⟨by4, hby, hb4⟩ := hT.bytes
  obtain ⟨z, hz, hzl⟩ := hT.zero
  have ht := bP hE hT.el
  obtain ⟨ie, hie, rfl, _⟩ := bE hE hT.sz
  obtain ⟨ib, hib, rfl⟩ := fM hE hby
  rw [hie] at hib
  cases hib
  obtain ⟨iz, zv, hiz, hzv, hdz, _⟩ := dv hE hz
  rw [hie] at hiz
  cases hiz
  have hzs : zv.cells.size = ie.size := by
   have := (di (hdz ⟨fun _ => none, fun _ _ => none⟩)).length
   have h5 := beq_true hzl
   simp at this
   omega
  obtain ⟨news, h1, h2, h3⟩ := hx.src (P := P) hr hv hl (bP hE he')
  obtain ⟨olds, o1, o2, o3⟩ := (cH.lst (st := st) (f := true) (rows := rows)).src (P := P) hr hu hlr ht
  have hbase : ∃ a0, u = .slice a0 rows.length rows.length := by
   rcases hu with ⟨rfl, a0, cap, rfl, hc⟩ | ⟨b, base, size, cap, rfl, _, hc, _⟩
   ·rw [hc rfl]; exact ⟨a0, rfl⟩
   ·rw [hc rfl]; exact ⟨_, rfl⟩
  obtain ⟨a0, rfl⟩ := hbase
  rw [hT.ts]
  have hge := grownCap_ge w (rows.length + new.length) rows.length e
  have hrun := run_append_grow_src w t tx o.type e ie zv ht hie hzv a0 rows.length rows.length olds o3.cellsD v new.length news h3 (by omega) (by omega) (kR (by omega) (by omega) (cr hb4))
  have hsz := gP (xs := olds ++ news) (need := rows.length + new.length) hzs (by rw [List.length_append, o2, h2, Nat.add_mul]) hge
  obtain ⟨g1, g2⟩ := newRow (w' := w.drew.alloc (.cells ((olds ++ news).toArray ++ Builtin.zeroCells zv.cells (grownCap w (rows.length + new.length) rows.length e - (rows.length + new.length))) e)) (cap := grownCap w (rows.length + new.length) rows.length e) (b := w.heap.size) hr hk hwf
   ((cE.drew w _).trans (cE.alloc _ _)) (eB w.drew _) (Nat.le_refl _) hsz (rows := rows ++ new) (by simpa using hge)
   (gS (tail := Builtin.zeroCells zv.cells (grownCap w (rows.length + new.length) rows.length e - (rows.length + new.length))) o1 h1 o3.one h3.one hlr hl)
  rw [List.length_append] at g1 g2
  exact ⟨_, _, _, hrun, fy (b8 _ _ _) ⟨_, _, _, rfl⟩, g1, g2⟩
theorem qy (hE : a7 P E) {d : Go.Call} {t tx e size k s : Nat} {x : SVal} {rows new : List (List SVal)} {z : Bool} (ho : o.op = .call d) (hb : d.callee = .builtin .append) (hev : evs ev d.args.toList = some [.own k s, x]) (hT : AppT P E d t tx e size) (hk : st.look k = some (.row size rows s z))
  (hx : cH st x new) (hl : ∀ r ∈ new, r.length = size) (hn : rows.length + new.length ≤ 1000000000) : bg P o ev st (.own k (s + 1)) (st.put k (.row size (rows ++ new) (s + 1) z)) :=
 cu (S := fun us => Builtin.append_ d.argTypes o.type us.toArray) ho hb hev (cL _ hk) (fun us consts => rfl) fun {c w} hr hwf hf us hd => by
  obtain ⟨u, v, hu, hv, rfl⟩ := two hd
  obtain ⟨e', he'⟩ := hT.src
  obtain ⟨by4, hby, hb4⟩ := hT.bytes
  obtain ⟨zz, hz, hzl⟩ := hT.zero
  have ht := bP hE hT.el
  obtain ⟨ie, hie, hsize, _⟩ := bE hE hT.sz
  obtain ⟨ib, hib, rfl⟩ := fM hE hby
  rw [hie] at hib
  cases hib
  obtain ⟨iz, zv, hiz, hzv, hdz, _⟩ := dv hE hz
  rw [hie] at hiz
  cases hiz
  have hzs : zv.cells.size = size := by
   have := (di (hdz ⟨fun _ => none, fun _ _ => none⟩)).length
   have h5 := beq_true hzl
   simp at this
   omega
  obtain ⟨news, h1, h2, h3⟩ := hx.src (P := P) hr hv hl (bP hE he')
  obtain ⟨_, ob, st0, sz, u0, hρ, _, hval⟩ := hu
  obtain ⟨rfl, rfl, hat⟩ := qD hr hk hρ
  cases hval rfl
  subst hsize
  rw [hT.ts]
  have place : ∀ (b' : Option Nat) (w' : World) (u' : Value), (∃ a n cap, u' = .slice a n cap) → (∀ r, b' = some r → ob = some r ∨ w.heap.size ≤ r) → But ob w w' →
    (∀ b i v, ob = some b → c.fz b i = some v → ∃ arr e f, w'.heap[b]? = some (.cells arr e f) ∧ arr[i]? = some v) → (∀ c' : Ctx, Le c c' → c'.fz = c.fz → dG c' (.row ie.size (rows ++ new) (st0 + 1) z) (.row b' (st0 + 1) ie.size u') w') →
    (Builtin.append_ #[t, tx] o.type #[u, v]).run P w = .ok u' w' → Ran P (Builtin.append_ #[t, tx] o.type #[u, v]) st (st.put k (.row ie.size (rows ++ new) (st0 + 1) z)) (.own k (st0 + 1)) c w := by
   intro b' w' u' hu' hblk hbut hfz hob hrun
   have hle : Le c ⟨fun n => if n = k then some (.row b' (st0 + 1) ie.size u') else c.ρ n, c.fz⟩ := ⟨fun n l e => by
    by_cases en : n = k
    ·subst en
     rw [hρ] at e
     cases e
     exact ⟨_, if_pos rfl, .inr ⟨b', _, _, u', rfl, Nat.lt_succ_self _⟩⟩
    ·exact ⟨l, by show (if n = k then _ else _) = _; rw [if_neg en]; exact e, cS.refl l⟩, fun _ _ _ h => h⟩
   obtain ⟨r1, r2⟩ := dC (o' := .row ie.size (rows ++ new) (st0 + 1) z) (c' := ⟨fun n => if n = k then some (.row b' (st0 + 1) ie.size u') else c.ρ n, c.fz⟩) hr hk hρ (if_pos rfl) (.inr ⟨b', _, _, u', rfl, Nat.lt_succ_self _⟩) (fun n hn => if_neg hn) (fun _ _ _ h => h) (fun _ _ _ h => .inl h) hblk hbut
    hfz (hob _ hle rfl)
   exact ⟨_, u', w', hrun, fy (if_pos rfl) hu', r1, r2⟩
  have grow : ∀ (a0 : Option Addr) (cap : Nat) (olds : List Value), u = .slice a0 rows.length cap → cap < rows.length + new.length → aM c rows.flatten olds → olds.length = rows.length * ie.size → (∀ x ∈ olds, x.oneCell' = true) → (∀ r ∈ rows, r.length = ie.size) →
    (Builtin.firstCells ie.size rows.length (.slice a0 rows.length cap)).run P w.drew = .ok olds.toArray w.drew → (∀ b i v, ob = some b → c.fz b i = some v → b < w.heap.size) → Ran P (Builtin.append_ #[t, tx] o.type #[u, v]) st (st.put k (.row ie.size (rows ++ new) (st0 + 1) z)) (.own k (st0 + 1)) c w := by
   intro a0 cap olds hu hlt hold hol hone hrl hfirst hfzlt
   have hge := grownCap_ge w (rows.length + new.length) cap e
   have hrun := run_append_grow_src w t tx o.type e ie zv ht hie hzv a0 rows.length cap olds hfirst v new.length news h3 hlt (by omega) (kR hlt (by omega) (cr hb4))
   have hsz := gP (xs := olds ++ news) (need := rows.length + new.length) hzs (by rw [List.length_append, hol, h2, Nat.add_mul]) hge
   have g := (cE.drew w (w.drawn + 1)).trans (cE.alloc w.drew (.cells ((olds ++ news).toArray ++ Builtin.zeroCells zv.cells (grownCap w (rows.length + new.length) cap e - (rows.length + new.length))) e))
   refine place (some w.heap.size) _ _ ⟨_, _, _, rfl⟩ (fun r hr => by cases hr; exact .inr (Nat.le_refl _)) (g.but _) (fun b i v hb hv => ?_) (fun c' hle hfz => ?_) (by rw [hu]; exact hrun)
   ·rw [show _ = _ from g.old b (hfzlt b i v hb hv)]
    exact hr.fz b i v hv
   ·exact ⟨rfl, rfl, _, e, _, ⟨by simp, eB w.drew _, hsz, by simpa using hge, gS (aM.le hle _ _ hold) (aM.le hle _ _ h1) hone h3.one hrl hl, fun i v hv => absurd (hfz ▸ hv) (fz_new hr (Nat.le_refl _) i v)⟩⟩
  rcases hat with ⟨rfl, rfl, a0, rfl⟩ | ⟨b, arr, ee, cap, rfl, hin⟩
  ·
   rcases Nat.eq_zero_or_pos new.length with h0 | h0
   ·have := List.length_eq_zero_iff.1 h0
    subst this
    have hn0 : news = [] := List.length_eq_zero_iff.1 (by rw [h2]; simp)
    subst hn0
    exact place none w _ ⟨_, _, _, rfl⟩ (fun r hr => by cases hr) ((cE.refl w).but _) (fun b i v hb => by cases hb) (fun c' _ _ => ⟨rfl, rfl, rfl, a0, rfl⟩) (zx ht hie h3)
   ·refine grow a0 0 [] rfl (by simpa using h0) rfl (by simp) (fun v hv => by cases hv) (fun r hr => by cases hr) ?_ (fun b i v hb => by cases hb)
    cases a0 with
    | none => exact run_firstCells_none w.drew ie.size 0 0 0
    | some a => exact run_firstCells_some w.drew ie.size 0 a 0 0 [] (by simp) (fun j u hu => by simp at hu)
  ·have hrl : ∀ r ∈ rows, r.length = ie.size := hin.elems.len
   obtain ⟨d1, d2, d3⟩ := hin.elems.denL rfl
   have hval := hin.val
   subst hval
   by_cases hroom : rows.length + new.length ≤ cap
   ·
    have hcap : (rows.length + new.length) * ie.size ≤ cap * ie.size := Nat.mul_le_mul_right _ hroom
    rw [Nat.add_mul] at hcap
    have hsz := hin.size
    obtain ⟨s1, s2, s3⟩ := iJ (off := rows.length * ie.size) hin.cells (vs := news) (by omega) h3.one
    have hrun := app_room (w' := stored w b (rows.length * ie.size) arr news) (ty := o.type) ht hie (b := b) (off := 0) (sLen := rows.length) (sCap := cap) h3 hroom (by simpa using s1 P)
    have hge : ∀ i v, i < rows.length * ie.size → arr[i]? = some v → (arr.toList.take (rows.length * ie.size) ++ (news ++ arr.toList.drop (rows.length * ie.size + news.length))).toArray[i]? = some v := fun i v hi hv => by
     rw [List.getElem?_toArray, qS _ _ _ (by simp; omega), if_pos hi]
     simpa using hv
    refine place (some b) _ _ ⟨_, _, _, rfl⟩ (fun r hr => .inl hr) s2 (fun b' i v hb hv => ?_) (fun c' hle hfz => ?_) hrun
    ·cases hb
     obtain ⟨arr2, e2, f2, h5, h6⟩ := hr.fz _ _ _ hv
     rw [hin.cells] at h5
     cases h5
     exact ⟨_, _, _, s3, hge i v (hin.fz i v hv).2 h6⟩
    ·refine ⟨rfl, rfl, _, ee, cap, ⟨by simp, s3, by simp; omega, by simpa using hroom, ?_, fun i v hv => ?_⟩⟩
     ·refine dq.of (fun r hr => (List.mem_append.1 hr).elim (hrl r) (hl r)) fun q s hq => ?_
      have hd := (aM.append.2 ⟨_, _, aM.le hle _ _ d1, aM.le hle _ _ h1, rfl⟩ : aM c' (rows.flatten ++ new.flatten) (arr.toList.take (rows.length * ie.size) ++ news))
      rw [← List.flatten_append] at hd
      obtain ⟨x, hx1, hx2⟩ := hd.get hq
      refine ⟨x, ?_, ?_, hx2⟩
      ·rw [← List.append_assoc, List.getElem?_toArray, List.getElem?_append_left (List.getElem?_eq_some_iff.1 hx1).1]
       exact hx1
      ·rcases List.mem_append.1 (List.mem_of_getElem? hx1) with h | h
       ·exact d3 x h
       ·exact h3.one x h
     ·obtain ⟨h5, h6⟩ := hin.fz i v (hfz ▸ hv)
      exact ⟨h5, by rw [List.length_append, Nat.add_mul]; omega⟩
   ·refine grow _ cap _ rfl (by omega) d1 d2 d3 hrl ?_ (fun b i v _ hv => yI hr hv)
    refine run_firstCells_some w.drew ie.size rows.length ⟨b, 0, none⟩ rows.length cap _ d2 fun j v hv => ?_
    rw [eS, Nat.zero_add, fW (w := w.drew) hin.cells]
    rw [List.getElem?_take] at hv
    split at hv
    ·simpa using hv
    ·cases hv
end
section
variable {P : Program} {E : Env} {o : Oper} {ev : Evl} {st : St}
theorem run_len {d : Go.Call} {t : TypeId} {n : Nat} {w : World} {u : Value} {ty : TypeId} (ht : d.argTypes[0]? = some t) (h : (P.underlying t = some .string ∨ ∃ e, P.underlying t = some (.slice e)) ∧ ((∃ s, u = .string s ∧ s.size = n) ∧ P.underlying t = some .string ∨ (∃ a cap, u = .slice a n cap) ∧ ∃ e, P.underlying t = some (.slice e))) :
  (Builtin.len_ d.argTypes ty #[u]).run P w = .ok (.int .i64 n) w := by
 rcases h.2 with ⟨⟨s, rfl, rfl⟩, hu⟩ | ⟨⟨a, cap, rfl⟩, e, hu⟩
 ·simp [Builtin.len_, ht, run_underlying hu, goInt]
 ·simp [Builtin.len_, ht, run_underlying hu, goInt]
theorem xi (hE : a7 P E) {d : Go.Call} {t : TypeId} {l : List UInt8} (ho : o.op = .call d) (hb : d.callee = .builtin .len) (hev : evs ev d.args.toList = some [.str l]) (ht : d.argTypes[0]? = some t) (hu : under E t = some .string) : bg P o ev st (.int .i64 l.length) st :=
 cu (S := fun us => Builtin.len_ d.argTypes o.type us.toArray) ho hb hev (Sta.refl _) (fun us consts => rfl) fun {c w} hr hwf hf us hd => by
  obtain ⟨u, hu', rfl⟩ := one hd
  cases hu'
  have h := bu hE hu
  exact Ran.same hr (v := .int .i64 l.length) (run_len ht ⟨.inl h, .inl ⟨⟨_, rfl, rfl⟩, h⟩⟩) rfl
theorem vj (hE : a7 P E) {d : Go.Call} {t e : TypeId} {x : SVal} {rows : List (List SVal)} (ho : o.op = .call d) (hb : d.callee = .builtin .len) (hev : evs ev d.args.toList = some [x]) (ht : d.argTypes[0]? = some t) (hu : cJ E t = some e) (hx : cH st x rows) : bg P o ev st (.int .i64 rows.length) st :=
 cu (S := fun us => Builtin.len_ d.argTypes o.type us.toArray) ho hb hev (Sta.refl _) (fun us consts => rfl) fun {c w} hr hwf hf us hd => by
  obtain ⟨u, hu', rfl⟩ := one hd
  have h := bP hE hu
  have hs : ∃ a cap, u = .slice a rows.length cap := by
   cases hx with
   | nil => cases hu'; exact ⟨_, _, rfl⟩
   | lst =>
    rcases hu' with ⟨rfl, a, cap, rfl, _⟩ | ⟨b, base, size, cap, rfl, _⟩
    ·exact ⟨_, _, rfl⟩
    ·exact ⟨_, _, rfl⟩
   | own hk =>
    obtain ⟨_, ob, st0, sz, u0, hρ, _, hval⟩ := hu'
    obtain ⟨rfl, rfl, hat⟩ := qD hr hk hρ
    cases hval rfl
    rcases hat with ⟨rfl, rfl, a, rfl⟩ | ⟨b, arr, ee, cap, rfl, hin⟩
    ·exact ⟨_, _, rfl⟩
    ·exact ⟨_, _, hin.val⟩
  exact Ran.same hr (v := .int .i64 rows.length) (run_len ht ⟨.inr ⟨e, h⟩, .inr ⟨hs, e, h⟩⟩) rfl
theorem xj (hE : a7 P E) {d : Go.Call} {t k0 e0 : TypeId} {k : Nat} {es : List (SVal × SVal)} (ho : o.op = .call d) (hb : d.callee = .builtin .len) (hev : evs ev d.args.toList = some [.map k]) (ht : d.argTypes[0]? = some t) (hu : under E t = some (.map k0 e0)) (hk : st.look k = some (.map es)) : bg P o ev st (.int .i64 es.length) st :=
 cu (S := fun us => Builtin.len_ d.argTypes o.type us.toArray) ho hb hev (Sta.refl _) (fun us consts => rfl) fun {c w} hr hwf hf us hd => by
  obtain ⟨u, ⟨b, hb, rfl⟩, rfl⟩ := one hd
  have h := bu hE hu
  obtain ⟨l', h1, h2⟩ := hr.cW _ _ hk
  rw [hb] at h1
  cases h1
  obtain ⟨ents, clock, h3, h4⟩ := h2
  have : ents.size = es.length := by rw [← h4.1]; simp
  exact Ran.same hr (v := .int .i64 es.length) (by simp [Builtin.len_, ht, run_underlying h, MapKept.run_getObj_map h3, goInt, this]) rfl
theorem xk (hE : a7 P E) {d : Go.Call} {t e : TypeId} {n : Nat} {x : SVal} (ho : o.op = .call d) (hb : d.callee = .builtin .len) (hev : evs ev d.args.toList = some [x]) (ht : d.argTypes[0]? = some t) (hu : under E t = some (.array n e)) : bg P o ev st (.int .i64 n) st :=
 cu (S := fun us => Builtin.len_ d.argTypes o.type us.toArray) ho hb hev (Sta.refl _) (fun us consts => rfl) fun {c w} hr hwf hf us hd => by
  obtain ⟨u, _, rfl⟩ := one hd
  have h := bu hE hu
  exact Ran.same hr (v := .int .i64 n) (by simp [Builtin.len_, ht, run_underlying h, goInt]) rfl
theorem sem_max2 {d : Go.Call} {k : IntKind} {a b : Int} (ho : o.op = .call d) (hb : d.callee = .builtin .max) (hev : evs ev d.args.toList = some [.int k a, .int k b]) : bg P o ev st (.int k (if b > a then b else a)) st :=
 cu (S := fun us => Builtin.max_ d.argTypes o.type us.toArray) ho hb hev (Sta.refl _) (fun us consts => rfl) fun {c w} hr hwf hf us hd => by
  obtain ⟨u, v, hu, hv, rfl⟩ := two hd
  cases hu; cases hv
  exact Ran.same hr (v := .int k (if b > a then b else a)) (by simp [Builtin.max_, Builtin.max2]) rfl
theorem sem_min2 {d : Go.Call} {k : IntKind} {a b : Int} (ho : o.op = .call d) (hb : d.callee = .builtin .min) (hev : evs ev d.args.toList = some [.int k a, .int k b]) : bg P o ev st (.int k (if b < a then b else a)) st :=
 cu (S := fun us => Builtin.min_ d.argTypes o.type us.toArray) ho hb hev (Sta.refl _) (fun us consts => rfl) fun {c w} hr hwf hf us hd => by
  obtain ⟨u, v, hu, hv, rfl⟩ := two hd
  cases hu; cases hv
  exact Ran.same hr (v := .int k (if b < a then b else a)) (by simp [Builtin.min_, Builtin.min2]) rfl
noncomputable def evo (ev : Evl) (x : Option Operand) : Option (Option Int) :=
 match x with
 | none => some none
 | some x => bnd (ev x) fun v => match v with
  | .int _ n => some (some n)
  | _ => none
theorem eQ {k : IntKind} {n y : Nat} (h : n ≤ y) (c : BoundsCode) (w : World) : (Instr.sliceBound (.int k n) y c).run P w = .ok n w := by
 have hj : (0 : Int) ≤ (n : Int) ∧ (n : Int) ≤ (y : Int) := by omega
 simp only [Instr.sliceBound, Sem.run_bind, asIntOf, Sem.run_pure, Result.andThen_ok, hj, and_self, if_true, Int.toNat_natCast]
def fQ (x : Option Int) (d : Nat) (n : Nat) : Prop := match x with
 | none => n = d
 | some i => i = (n : Int)
theorem iS {c : Ctx} {e : Operand → Value} {x : Option Operand} {b : Option Int} (h : evo ev x = some b) (he : ∀ y, x = some y → ∀ s, ev y = some s → Den c s (e y)) : (b = none ∧ x.map e = none) ∨ ∃ k i, b = some i ∧ x.map e = some (.int k i) := by
 unfold evo at h
 cases x with
 | none => cases h; exact .inl ⟨rfl, rfl⟩
 | some x =>
  have h : bnd (ev x) (fun v => match v with | .int _ n => some (some n) | _ => none) = some b := h
  rw [aU] at h
  obtain ⟨v, h1, h2⟩ := h
  have hd := he x rfl v h1
  cases v <;> simp only [Option.some.injEq, reduceCtorEq] at h2
  rename_i k n
  subst h2
  exact .inr ⟨k, n, rfl, by rw [Option.map_some, show e x = .int k n from hd]⟩
theorem lf {len cap l h : Nat} {lo hi : Option Value} (hl : (lo = none ∧ l = 0) ∨ ∃ k, lo = some (.int k l)) (hh : (hi = none ∧ h = len) ∨ ∃ k, hi = some (.int k h)) (h1 : l ≤ h) (h2 : h ≤ cap) (b : Bool) (w : World) :
  (Instr.sliceBounds b len cap lo hi none).run P w = .ok (l, h, cap) w := by
 rcases hl with ⟨rfl, rfl⟩ | ⟨k, rfl⟩ <;> rcases hh with ⟨rfl, rfl⟩ | ⟨k2, rfl⟩
 ·simp [Instr.sliceBounds]
 ·simp [Instr.sliceBounds, eQ (P := P) h2]
 ·simp [Instr.sliceBounds, eQ (P := P) h1]
 ·simp [Instr.sliceBounds, eQ (P := P) h1, eQ (P := P) h2]
theorem bounds3 {len cap l h m : Nat} {lo : Option Value} {k1 k2 : IntKind} (hl : (lo = none ∧ l = 0) ∨ ∃ k, lo = some (.int k l)) (h1 : l ≤ h) (h2 : h ≤ m) (h3 : m ≤ cap) (b : Bool) (w : World) :
  (Instr.sliceBounds b len cap lo (some (.int k1 h)) (some (.int k2 m))).run P w = .ok (l, h, m) w := by
 rcases hl with ⟨rfl, rfl⟩ | ⟨k, rfl⟩
 ·simp [Instr.sliceBounds, eQ (P := P) h2, eQ (P := P) h3]
 ·simp [Instr.sliceBounds, eQ (P := P) h1, eQ (P := P) h2, eQ (P := P) h3]
theorem bytes_cut (s : List UInt8) (l h : Nat) : (⟨s.toArray⟩ : ByteArray).extract l h = ⟨((s.take h).drop l).toArray⟩ := by
 rw [ByteArray.extract_mk, List.drop_take]
theorem fw {x : Option Value} {b : Option Int} {d n : Nat} (h : (b = none ∧ x = none) ∨ ∃ k i, b = some i ∧ x = some (.int k i)) (hb : fQ b d n) : (x = none ∧ n = d) ∨ ∃ k, x = some (.int k n) := by
 rcases h with ⟨rfl, rfl⟩ | ⟨k, i, rfl, rfl⟩
 ·exact .inl ⟨rfl, hb⟩
 ·exact .inr ⟨k, by rw [show i = (n : Int) from hb]⟩
theorem sR (hE : a7 P E) {t : TypeId} {x : Operand} {lo hi : Option Operand} {s : List UInt8} {bl bh : Option Int} {l h : Nat} (ho : o.op = .slice t x lo hi none) (hx : ev x = some (.str s)) (ht : under E t = some .string) (hl : evo ev lo = some bl) (hh : evo ev hi = some bh)
  (hbl : fQ bl 0 l) (hbh : fQ bh s.length h) (h1 : l ≤ h) (h2 : h ≤ s.length) : bg P o ev st (.str ((s.take h).drop l)) st :=
 ⟨by simp [ho], Sta.refl _, fun {c w} hr _ _ {e} he => by
  have hu := bu hE ht
  have hs : e x = .string ⟨s.toArray⟩ := he x (by simp [ho, Op.operands]) _ hx
  have d1 := fw (iS (c := c) (e := e) hl (fun y hy => he y (by subst hy; simp [ho, Op.operands]))) hbl
  have d2 := fw (iS (c := c) (e := e) hh (fun y hy => he y (by subst hy; simp [ho, Op.operands]))) hbh
  refine cZ.val (S := Instr.sliceAt t (e x) (lo.map e) (hi.map e) none) (by simp only [execOp, ho]; rfl) (Ran.same hr (v := .string ⟨((s.take h).drop l).toArray⟩) ?_ rfl)
  have e2 : (⟨s.toArray⟩ : ByteArray).size = s.length := rfl
  have hb := lf (P := P) (len := s.length) (cap := s.length) d1 d2 h1 h2 false w
  simp only [hs, Instr.sliceAt, Instr.slice, Sem.run_bind, run_underlying hu, Result.andThen_ok, Option.isSome_none, Bool.false_eq_true, if_false, e2, hb, Sem.run_pure, bytes_cut]⟩
theorem ga {t e : TypeId} {a : Option Addr} {len cap l h m sz : Nat} {lo hi mx : Option Value} (hu : P.underlying t = some (.slice e)) (hs : ∀ w, (Go.sizeOf e).run P w = .ok sz w) {w : World} (hb : (Instr.sliceBounds true len cap lo hi mx).run P w = .ok (l, h, m) w) :
  ∃ a', (Instr.slice t (.slice a len cap) lo hi mx).run P w = .ok (.slice a' (h - l) (m - l)) w ∧ ∀ b o, a = some ⟨b, o, none⟩ → (m = l ∧ a' = some ⟨b, o, none⟩) ∨ a' = some ⟨b, o + l * sz, none⟩ := by
 cases a with
 | none =>
  refine ⟨none, ?_, fun b o h => by cases h⟩
  simp only [Instr.slice, Sem.run_bind, run_underlying hu, Result.andThen_ok, hb, hs w, Sem.run_pure, Option.map_none, ite_self]
 | some a =>
  refine ⟨some (if m = l then a else a.add (l * sz)), ?_, fun b o h => ?_⟩
  ·simp only [Instr.slice, Sem.run_bind, run_underlying hu, Result.andThen_ok, hb, hs w, Sem.run_pure]
   split <;> rfl
  ·cases h
   by_cases e : m = l
   ·exact .inl ⟨e, by rw [if_pos e]⟩
   ·exact .inr (by rw [if_neg e, eS])
theorem yV {c : Ctx} {b size : Nat} {rows : List (List SVal)} {i : Nat} (h : bp c b size rows i) (l n : Nat) : bp c b size ((rows.take n).drop l) (i + l * size) :=
 bp.of fun j row hr => by
  rw [List.getElem?_drop, List.getElem?_take] at hr
  split at hr
  ·obtain ⟨h1, h2⟩ := h.get hr
   exact ⟨h1, by rw [Nat.add_assoc, ← Nat.add_mul]; exact h2⟩
  ·cases hr
theorem lst_cut {c : Ctx} {b base size l h m : Nat} {rows : List (List SVal)} {f : Bool} {a' : Option Addr} (h1 : l ≤ h) (h2 : h ≤ rows.length) (hm : h ≤ m) (hf : f = true → m = h) (hd : bp c b size rows base) (ha : (m = l ∧ a' = some ⟨b, base, none⟩) ∨ a' = some ⟨b, base + l * size, none⟩) :
  Den c (.lst f ((rows.take h).drop l)) (.slice a' (h - l) (m - l)) := by
 have hlen : ((rows.take h).drop l).length = h - l := by simp; omega
 rcases ha with ⟨rfl, rfl⟩ | rfl
 ·exact .inl ⟨List.length_eq_zero_iff.1 (by omega), _, _, by rw [show h - m = 0 by omega], fun _ => by omega⟩
 ·exact .inr ⟨b, _, size, m - l, by rw [hlen], by rw [hlen]; omega, fun hh => by rw [hlen, hf hh], yV hd l h⟩
theorem fa {t e : TypeId} (hu : P.underlying t = some (.slice e)) (v : Value) (lo hi mx : Option Value) (w : World) : (Instr.sliceAt t v lo hi mx).run P w = (Instr.slice t v lo hi mx).run P w := by
 simp only [Instr.sliceAt, Sem.run_bind, run_underlying hu, Result.andThen_ok]
theorem sT (hE : a7 P E) {t el sz : Nat} {x : Operand} {lo hi : Option Operand} {f : Bool} {rows : List (List SVal)} {bl bh : Option Int} {l h : Nat} (ho : o.op = .slice t x lo hi none) (hx : ev x = some (.lst f rows)) (ht : cJ E t = some el) (hsz : cj E el = some sz) (hlr : ∀ r ∈ rows, r.length = sz)
  (hl : evo ev lo = some bl) (hh : evo ev hi = some bh) (hbl : fQ bl 0 l) (hbh : fQ bh rows.length h) (h1 : l ≤ h) (h2 : h ≤ rows.length) : bg P o ev st (.lst false ((rows.take h).drop l)) st :=
 ⟨by simp [ho], Sta.refl _, fun {c w} hr _ _ {e} he => by
  have hu := bP hE ht
  obtain ⟨i, _, rfl, hs⟩ := bE hE hsz
  have hd := he x (by simp [ho, Op.operands]) _ hx
  have d1 := fw (iS (c := c) (e := e) hl (fun y hy => he y (by subst hy; simp [ho, Op.operands]))) hbl
  have d2 := fw (iS (c := c) (e := e) hh (fun y hy => he y (by subst hy; simp [ho, Op.operands]))) hbh
  have hex : execOp e o = (do pure (.value (← Instr.sliceAt t (e x) (lo.map e) (hi.map e) none)) : Sem Next) := by simp only [execOp, ho]; rfl
  rcases hd with ⟨rfl, a, cap, hxv, _⟩ | ⟨b, base, size, cap, hxv, hc, _, hrows⟩
  ·have hh0 : h = 0 := by simpa using h2
   have hl0 : l = 0 := by omega
   subst hh0 hl0
   obtain ⟨a', hrun, _⟩ := ga (a := a) hu hs (lf (P := P) (len := 0) (cap := cap) d1 d2 (Nat.le_refl _) (Nat.zero_le _) true w)
   rw [hxv] at hex
   exact cZ.val hex (Ran.same hr (by rw [fa hu]; exact hrun) (.inl ⟨by simp, a', cap, rfl, fun h => by cases h⟩))
  ·obtain ⟨a', hrun, ha⟩ := ga (a := some ⟨b, base, none⟩) hu hs (lf (P := P) (len := rows.length) (cap := cap) d1 d2 h1 (by omega) true w)
   rw [hxv] at hex
   refine cZ.val hex (Ran.same hr (by rw [fa hu]; exact hrun) (lst_cut (base := base) (size := size) h1 h2 (by omega) (fun h => by cases h) hrows ?_))
   rcases ha b base rfl with ha | ha
   ·exact .inl ha
   ·rcases Nat.eq_zero_or_pos rows.length with e0 | e0
    ·have : l = 0 := by omega
     subst this
     exact .inr (by rw [ha]; simp)
    ·have : size = i.size := by rw [← (hrows.get (List.getElem?_eq_getElem e0)).1, hlr _ (List.getElem_mem e0)]
     exact .inr (by rw [ha, this])⟩
theorem jA (hE : a7 P E) {t el sz : Nat} {x hi mx : Operand} {lo : Option Operand} {f : Bool} {rows : List (List SVal)} {bl : Option Int} {k1 k2 : IntKind} {nh nm : Int} {l h : Nat} (ho : o.op = .slice t x lo (some hi) (some mx)) (hx : ev x = some (.lst f rows)) (ht : cJ E t = some el) (hsz : cj E el = some sz) (hlr : ∀ r ∈ rows, r.length = sz)
  (hl : evo ev lo = some bl) (hh : ev hi = some (.int k1 nh)) (hm : ev mx = some (.int k2 nm)) (hbl : fQ bl 0 l) (hnh : nh = (h : Int)) (hnm : nm = (h : Int)) (h1 : l ≤ h) (h2 : h ≤ rows.length) : bg P o ev st (.lst true ((rows.take h).drop l)) st :=
 ⟨by simp [ho], Sta.refl _, fun {c w} hr _ _ {e} he => by
  have hu := bP hE ht
  obtain ⟨i, _, rfl, hs⟩ := bE hE hsz
  subst hnh hnm
  have hd := he x (by simp [ho, Op.operands]) _ hx
  have hhi : e hi = .int k1 h := he hi (by simp [ho, Op.operands]) _ hh
  have hmx : e mx = .int k2 h := he mx (by simp [ho, Op.operands]) _ hm
  have d1 := fw (iS (c := c) (e := e) hl (fun y hy => he y (by subst hy; simp [ho, Op.operands]))) hbl
  have hex : execOp e o = (do pure (.value (← Instr.sliceAt t (e x) (lo.map e) (some (e hi)) (some (e mx)))) : Sem Next) := by simp only [execOp, ho]; rfl
  rw [hhi, hmx] at hex
  rcases hd with ⟨rfl, a, cap, hxv, _⟩ | ⟨b, base, size, cap, hxv, hc, _, hrows⟩
  ·have hh0 : h = 0 := by simpa using h2
   have hl0 : l = 0 := by omega
   subst hh0 hl0
   obtain ⟨a', hrun, _⟩ := ga (a := a) hu hs (bounds3 (P := P) (len := 0) (cap := cap) d1 (Nat.le_refl _) (Nat.le_refl _) (Nat.zero_le _) true w)
   rw [hxv] at hex
   exact cZ.val hex (Ran.same hr (by rw [fa hu]; exact hrun) (.inl ⟨by simp, a', 0, rfl, fun h => rfl⟩))
  ·obtain ⟨a', hrun, ha⟩ := ga (a := some ⟨b, base, none⟩) hu hs (bounds3 (P := P) (len := rows.length) (cap := cap) d1 h1 (Nat.le_refl _) (by omega) true w)
   rw [hxv] at hex
   refine cZ.val hex (Ran.same hr (by rw [fa hu]; exact hrun) (lst_cut (base := base) (size := size) h1 h2 (Nat.le_refl _) (fun _ => rfl) hrows ?_))
   rcases ha b base rfl with ha | ha
   ·exact .inl ha
   ·rcases Nat.eq_zero_or_pos rows.length with e0 | e0
    ·have : l = 0 := by omega
     subst this
     exact .inr (by rw [ha]; simp)
    ·have : size = i.size := by rw [← (hrows.get (List.getElem?_eq_getElem e0)).1, hlr _ (List.getElem_mem e0)]
     exact .inr (by rw [ha, this])⟩
theorem sU (hE : a7 P E) {t el : Nat} {x hi : Operand} {k s sz h : Nat} {ki : IntKind} {n : Int} {rows : List (List SVal)} (ho : o.op = .slice t x none (some hi) none) (hx : ev x = some (.own k s)) (ht : cJ E t = some el) (hsz : cj E el = some sz) (hk : st.look k = some (.row sz rows s false)) (hh : ev hi = some (.int ki n))
  (hn : n = (h : Int)) (h2 : h ≤ rows.length) : bg P o ev st (.own k (s + 1)) (st.put k (.row sz (rows.take h) (s + 1) false)) :=
 ⟨by simp [ho], cL _ hk, fun {c w} hr _ _ {e} he => by
  have hu := bP hE ht
  obtain ⟨i, _, rfl, hs⟩ := bE hE hsz
  subst hn
  obtain ⟨_, ob, st0, sz, u0, hρ, _, hval⟩ := he x (by simp [ho, Op.operands]) _ hx
  have hhi : e hi = .int ki h := he hi (by simp [ho, Op.operands]) _ hh
  obtain ⟨rfl, rfl, hat⟩ := qD hr hk hρ
  have hval := hval rfl
  have hex : execOp e o = (do pure (.value (← Instr.sliceAt t (e x) none (some (e hi)) none)) : Sem Next) := by simp only [execOp, ho]; rfl
  rw [hval, hhi] at hex
  have place : ∀ (b' : Option Nat) (u' : Value), (∃ a n cap, u' = .slice a n cap) → (∀ r, b' = some r → ob = some r) → (∀ b i v, ob = some b → c.fz b i ≠ some v) → (∀ c' : Ctx, Le c c' → c'.fz = c.fz → dG c' (.row i.size (rows.take h) (st0 + 1) false) (.row b' (st0 + 1) i.size u') w) →
    (Instr.slice t u0 none (some (.int ki h)) none).run P w = .ok u' w → Ran P (Instr.sliceAt t u0 none (some (.int ki h)) none) st (st.put k (.row i.size (rows.take h) (st0 + 1) false)) (.own k (st0 + 1)) c w := by
   intro b' u' hu' hblk hfz hob hrun
   have hle : Le c ⟨fun n => if n = k then some (.row b' (st0 + 1) i.size u') else c.ρ n, c.fz⟩ := ⟨fun n l e => by
    by_cases en : n = k
    ·subst en
     rw [hρ] at e
     cases e
     exact ⟨_, if_pos rfl, .inr ⟨b', _, _, u', rfl, Nat.lt_succ_self _⟩⟩
    ·exact ⟨l, by show (if n = k then _ else _) = _; rw [if_neg en]; exact e, cS.refl l⟩, fun _ _ _ h => h⟩
   obtain ⟨r1, r2⟩ := dC (o' := .row i.size (rows.take h) (st0 + 1) false) (c' := ⟨fun n => if n = k then some (.row b' (st0 + 1) i.size u') else c.ρ n, c.fz⟩) hr hk hρ (if_pos rfl) (.inr ⟨b', _, _, u', rfl, Nat.lt_succ_self _⟩) (fun n hn => if_neg hn) (fun _ _ _ h => h) (fun _ _ _ h => .inl h) (fun r hr => .inl (hblk r hr)) ((cE.refl w).but _)
    (fun b i v hb hv => absurd hv (hfz b i v hb)) (hob _ hle rfl)
   exact ⟨_, u', w, by rw [fa hu]; exact hrun, fy (if_pos rfl) hu', r1, r2⟩
  refine cZ.val hex ?_
  rcases hat with ⟨rfl, rfl, a0, rfl⟩ | ⟨b, arr, ee, cap, rfl, hin⟩
  ·have hh0 : h = 0 := by simpa using h2
   subst hh0
   obtain ⟨a', hrun, _⟩ := ga (a := a0) hu hs (lf (P := P) (lo := none) (len := 0) (cap := 0) (.inl ⟨rfl, rfl⟩) (.inr ⟨ki, rfl⟩) (Nat.le_refl _) (Nat.le_refl _) true w)
   exact place none _ ⟨_, _, _, rfl⟩ (fun r hr => by cases hr) (fun b i v hb => by cases hb) (fun c' _ _ => ⟨rfl, rfl, by simp, a', rfl⟩) hrun
  ·have hv := hin.val
   subst hv
   have hcap := hin.fits
   obtain ⟨a', hrun, ha⟩ := ga (a := some ⟨b, 0, none⟩) hu hs (lf (P := P) (lo := none) (len := rows.length) (cap := cap) (h := h) (.inl ⟨rfl, rfl⟩) (.inr ⟨ki, rfl⟩) (Nat.zero_le _) (by omega) true w)
   have ha' : a' = some ⟨b, 0, none⟩ := by
    rcases ha b 0 rfl with ⟨_, h⟩ | h
    ·exact h
    ·rw [h]; simp
   subst ha'
   refine place (some b) _ ⟨_, _, _, rfl⟩ (fun r hr => hr) (fun b' j v hb hv => by cases hb; have := (hin.fz j v hv).1; cases this) (fun c' hle hfz => ⟨rfl, rfl, arr, ee, cap, ⟨?_, hin.cells, hin.size, ?_, fun j row hr => ?_, fun j v hv => ?_⟩⟩) hrun
   ·rw [List.length_take, Nat.min_eq_left h2]; rfl
   ·rw [List.length_take]; omega
   ·rw [List.getElem?_take] at hr
    split at hr
    ·exact hin.elems.le hle j row hr
    ·cases hr
   ·rw [hfz] at hv
    have := (hin.fz j v hv).1
    cases this⟩
theorem sS (hE : a7 P E) {t el sz : Nat} {x : Operand} {lo hi : Option Operand} {bl bh : Option Int} (ho : o.op = .slice t x lo hi none) (hx : ev x = some .az) (ht : cJ E t = some el) (hsz : cj E el = some sz) (hl : evo ev lo = some bl) (hh : evo ev hi = some bh) (hbl : fQ bl 0 0) (hbh : fQ bh 0 0) : bg P o ev st .az st :=
 ⟨by simp [ho], Sta.refl _, fun {c w} hr _ _ {e} he => by
  have hu := bP hE ht
  obtain ⟨i, _, rfl, hs⟩ := bE hE hsz
  have hd : e x = .slice none 0 0 := he x (by simp [ho, Op.operands]) _ hx
  have d1 := fw (iS (c := c) (e := e) hl (fun y hy => he y (by subst hy; simp [ho, Op.operands]))) hbl
  have d2 := fw (iS (c := c) (e := e) hh (fun y hy => he y (by subst hy; simp [ho, Op.operands]))) hbh
  have hex : execOp e o = (do pure (.value (← Instr.sliceAt t (e x) (lo.map e) (hi.map e) none)) : Sem Next) := by simp only [execOp, ho]; rfl
  refine cZ.val hex (Ran.same hr (v := .slice none 0 0) ?_ rfl)
  have hb := lf (P := P) (len := 0) (cap := 0) d1 d2 (Nat.le_refl _) (Nat.le_refl _) true w
  rw [fa hu]
  simp only [hd, Instr.slice, Sem.run_bind, run_underlying hu, Result.andThen_ok, hb, hs w, Sem.run_pure, Option.map_none, ite_self, Nat.sub_zero]⟩
end
end Sv
