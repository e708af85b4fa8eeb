/- For ConcreteHidden: regions of operations, in the order of the text and in any. -/
import Derived.Test.YtmjddpeookapaaaGreatDoorSvC
import Derived.RangeFuncLeaves
import Derived.RangeFuncNested
import Derived.Scope
set_option linter.unusedVariables false
set_option linter.unusedSimpArgs false
set_option linter.unusedSectionVars false
namespace Sv
open Go Go.RowKit
def eC : TypeDesc → SVal → Prop
 | .int k, .int k' _ => k' = k
 | .string, .str _ => True
 | _, _ => False
inductive fP : List (SVal × SVal) → SVal → Option (Nat × SVal) → Prop where
 | nil {k : SVal} : fP [] k none
 | here {k v : SVal} {r : List (SVal × SVal)} : fP ((k, v) :: r) k (some (0, v))
 | there {k : SVal} {p : SVal × SVal} {r : List (SVal × SVal)} {x : Option (Nat × SVal)} : p.1 ≠ k → fP r k x → fP (p :: r) k (x.map fun q => (q.1 + 1, q.2))
theorem yu {d : TypeDesc} {k : SVal} (h : eC d k) {c : Ctx} {u : Value} (hk : Den c k u) : MapKept.IsKey d u := by
 cases d <;> cases k <;> simp only [eC] at h
 ·subst h; cases hk; simp [MapKept.IsKey]
 ·cases hk; simp [MapKept.IsKey]
theorem uO (a b : List UInt8) : ((⟨a.toArray⟩ : ByteArray) == ⟨b.toArray⟩) = (a == b) := by
 rw [Bool.eq_iff_iff, MapKept.bytes_beq]
 simp
theorem qB {d : TypeDesc} {k x : SVal} (hk : eC d k) (hx : eC d x) {c : Ctx} {u v : Value} (hu : Den c k u) (hv : Den c x v) : (x = k → Instr.sameNow d u v = some true ∧ u = v) ∧ (x ≠ k → Instr.sameNow d u v = some false) := by
 cases d <;> cases k <;> simp only [eC] at hk <;> cases x <;> simp only [eC] at hx
 ·subst hk; subst hx; cases hu; cases hv
  rename_i a k b
  refine ⟨fun h => ?_, fun h => ?_⟩
  ·cases h; exact ⟨by simp [Instr.sameNow], rfl⟩
  ·have : ¬ (a = b) := fun e => h (by rw [e])
   simp [Instr.sameNow, this]
 ·cases hu; cases hv
  rename_i a b
  refine ⟨fun h => ?_, fun h => ?_⟩
  ·cases h; exact ⟨by simp [Instr.sameNow, uO], rfl⟩
  ·have : ¬ (a = b) := fun e => h (by rw [e])
   simp [Instr.sameNow, uO, this]
def Found (c : Ctx) (l : List MapEntry) (u : Value) (i : Nat) : Option (Nat × SVal) → Option (Nat × Value) → Prop
 | none, none => True
 | some p, some q => ∃ e, q = (i + p.1, e.val) ∧ l[p.1]? = some e ∧ e.key = u ∧ Den c p.2 e.val
 | _, _ => False
theorem kj.tail {c : Ctx} {p : SVal × SVal} {es : List (SVal × SVal)} {e : MapEntry} {l : List MapEntry} (h : kj c (p :: es) (e :: l)) : kj c es l := ⟨by simpa using h.1, fun j q hq => by simpa using h.2 (j + 1) q (by simpa using hq)⟩
theorem fP.ok {d : TypeDesc} {k : SVal} {c : Ctx} {u : Value} (hk : eC d k) (hu : Den c k u) {es : List (SVal × SVal)} {r : Option (Nat × SVal)} (h : fP es k r) : (∀ p ∈ es, eC d p.1) → ∀ {l : List MapEntry} (i : Nat), kj c es l →
  ∃ r', Instr.findNow d u l i = some r' ∧ Found c l u i r r' := by
 induction h with
 | nil =>
  intro _ l i he
  have : l = [] := List.length_eq_zero_iff.1 he.1
  subst this
  exact ⟨none, rfl, trivial⟩
 | here =>
  rename_i k v r
  intro hks l i he
  obtain ⟨e, h3, h4, h5⟩ := he.2 0 _ rfl
  cases l with
  | nil => simp at h3
  | cons e0 l =>
   simp only [List.getElem?_cons_zero, Option.some.injEq] at h3
   subst h3
   obtain ⟨h6, h7⟩ := (qB hk hk hu h4).1 rfl
   exact ⟨some (i, e0.val), by simp [Instr.findNow, h6], e0, rfl, rfl, h7.symm, h5⟩
 | there hne _ ih =>
  rename_i k p r x _
  intro hks l i he
  obtain ⟨e, h3, h4, h5⟩ := he.2 0 _ rfl
  cases l with
  | nil => simp at h3
  | cons e0 l =>
   simp only [List.getElem?_cons_zero, Option.some.injEq] at h3
   subst h3
   have h6 := (qB hk (hks p (.head _)) hu h4).2 hne
   obtain ⟨r', h8, h9⟩ := ih hk hu (fun q hq => hks q (.tail _ hq)) (i + 1) he.tail
   refine ⟨r', by simp [Instr.findNow, h6, h8], ?_⟩
   cases x with
   | none => cases r' with
    | none => trivial
    | some q => exact h9.elim
   | some q0 => cases r' with
    | none => exact h9.elim
    | some q =>
     obtain ⟨e, h11, h12, h14, h15⟩ := h9
     exact ⟨e, by rw [h11]; simp only [Prod.mk.injEq, and_true]; omega, by simpa using h12, h14, h15⟩
theorem map_at {st : St} {c : Ctx} {w : World} (hr : Rep c st.look w) {k b : Nat} {es : List (SVal × SVal)} (h : st.look k = some (.map es)) (hb : c.ρ k = some (.box b)) : ∃ ents clock, w.heap[b]? = some (.map ents clock) ∧ kj c es ents.toList := by
 obtain ⟨l', h1, h2⟩ := hr.cW k _ h
 rw [hb] at h1
 cases h1
 exact h2
section
variable {P : Program} {E : Env} {o : Oper} {ev : Evl} {st : St}
def lookV (ok : Bool) (v : SVal) (b : Bool) : SVal := match ok with
 | true => .tup [v, .bool b]
 | false => v
theorem qv (hE : a7 P E) {t : TypeId} {x ix : Operand} {ok : Bool} {ke : TypeId × TypeId} {k : Nat} {key : SVal} {es : List (SVal × SVal)} {d : TypeDesc} {r : Option (Nat × SVal)} {s : SVal} (ho : o.op = .lookup t x ix ok) (ht : bnd (under E t) mapD = some ke) (hd : under E ke.1 = some d) (hx : ev x = some (.map k)) (hix : ev ix = some key)
  (hlk : st.look k = some (.map es)) (hk : eC d key) (hks : ∀ p ∈ es, eC d p.1) (hf : fP es key r) (hs : (r = none ∧ ∃ z, fT E ke.2 = some z ∧ s = lookV ok z false) ∨ ∃ i v, r = some (i, v) ∧ s = lookV ok v true) : bg P o ev st s st :=
 ⟨by simp [ho], Sta.refl _, fun {c w} hr _ _ {e} he => by
  have hu := tV hE ht
  have hdk := bu hE hd
  obtain ⟨b, hb, hxv⟩ := he x (by simp [ho, Op.operands]) _ hx
  have hku := he ix (by simp [ho, Op.operands]) _ hix
  have hkey := yu hk hku
  obtain ⟨ents, clock, h3, h4⟩ := map_at hr hlk hb
  obtain ⟨r', h5, h6⟩ := hf.ok hk hku hks 0 h4
  have tail : ∃ v, Den c s v ∧ ∀ em, (do
    Instr.checkKey em 10000 ke.1 (e ix)
    let (v, ok') ← match ← Instr.findKey ke.1 (e ix) ents.toList with
     | some (_, v) => (pure (v, true) : Sem (Value × Bool))
     | none => do pure (← zeroValue ke.2, false)
    pure (if ok then .tuple #[v, .bool ok'] else v) : Sem Value).run P w = .ok v w := by
   rcases hs with ⟨rfl, z, hz, rfl⟩ | ⟨i, v, rfl, rfl⟩
   ·obtain ⟨_, zv, _, _, hzd, hzr⟩ := dv hE hz
    cases r' with
    | some q => exact h6.elim
    | none =>
     refine ⟨if ok then .tuple #[zv, .bool false] else zv, by cases ok; exact hzd c; exact ⟨_, ⟨_, _, hzd c, ⟨_, _, rfl, rfl, rfl⟩, rfl⟩, rfl⟩, fun em => ?_⟩
     simp only [Sem.run_bind, MapKept.run_checkKey hdk hkey, MapKept.run_findKey hdk h5, Result.andThen_ok, hzr w, Sem.run_pure]
   ·cases r' with
    | none => exact h6.elim
    | some q =>
     obtain ⟨en, rfl, h12, h14, h15⟩ := h6
     refine ⟨if ok then .tuple #[en.val, .bool true] else en.val, by cases ok; exact h15; exact ⟨_, ⟨_, _, h15, ⟨_, _, rfl, rfl, rfl⟩, rfl⟩, rfl⟩, fun em => ?_⟩
     simp only [Sem.run_bind, MapKept.run_checkKey hdk hkey, MapKept.run_findKey hdk h5, Result.andThen_ok, Sem.run_pure]
  obtain ⟨v, h1, h2⟩ := tail
  refine cZ.val (S := Instr.lookup t (e x) (e ix) ok) (by simp only [execOp, ho]) (Ran.same hr (v := v) (Eq.trans ?_ (h2 ents.isEmpty)) h1)
  simp only [hxv, Instr.lookup, Sem.run_bind, run_underlying hu, Result.andThen_ok, MapKept.run_getObj_map h3, Sem.run_pure]
  rfl⟩
theorem setObj_but (w : World) (r : Nat) (ob : Obj) : But (some r) w { w with heap := w.heap.setIfInBounds r ob } :=
 ⟨rfl, rfl, rfl, by simp, fun k _ hk => by
  have : r ≠ k := fun e => hk (by rw [e])
  simp [this]⟩
theorem kj.append {c : Ctx} {es : List (SVal × SVal)} {l : List MapEntry} (h : kj c es l) {k v : SVal} {e : MapEntry} (hk : Den c k e.key) (hv : Den c v e.val) : kj c (es ++ [(k, v)]) (l ++ [e]) := by
 refine ⟨by simp [h.1], fun i p hp => ?_⟩
 by_cases hi : i < es.length
 ·rw [List.getElem?_append_left hi] at hp
  rw [List.getElem?_append_left (by rw [h.1]; exact hi)]
  exact h.2 i p hp
 ·rw [List.getElem?_append_right (by omega)] at hp
  rw [List.getElem?_append_right (by rw [h.1]; omega), h.1]
  cases hj : i - es.length with
  | zero => rw [hj] at hp; simp at hp; subst hp; exact ⟨e, rfl, hk, hv⟩
  | succ j => rw [hj] at hp; simp at hp
theorem sW (hE : a7 P E) {t : TypeId} {m k x : Operand} {ke : TypeId × TypeId} {r : Nat} {key v : SVal} {es : List (SVal × SVal)} {d : TypeDesc} (ho : o.op = .mapUpdate t m k x ∨ o.op = .insert t m k x) (ht : bnd (under E t) mapD = some ke) (hd : under E ke.1 = some d) (hm : ev m = some (.map r)) (hk : ev k = some key)
  (hx : ev x = some v) (hlk : st.look r = some (.map es)) (hkd : eC d key) (hks : ∀ p ∈ es, eC d p.1) (hf : fP es key none) : bg P o ev st (.tup []) (st.put r (.map (es ++ [(key, v)]))) :=
 ⟨by rcases ho with ho | ho <;> simp [ho], cL _ hlk, fun {c w} hr _ _ {e} he => by
  have hu := tV hE ht
  have hdk' := bu hE hd
  have mem : ∀ y ∈ [m, k, x], y ∈ o.op.operands.toList := fun y hy => by rcases ho with ho | ho <;> simpa [ho, Op.operands] using hy
  obtain ⟨b, hb, hmv⟩ := he m (mem _ (by simp)) _ hm
  have hku := he k (mem _ (by simp)) _ hk
  have hxv := he x (mem _ (by simp)) _ hx
  have hkey := yu hkd hku
  obtain ⟨ents, clock, h1, h2⟩ := map_at hr hlk hb
  obtain ⟨q', h4, h5⟩ := hf.ok hkd hku hks 0 h2
  have hlt : b < w.heap.size := (Array.getElem?_eq_some_iff.1 h1).1
  cases q' with
  | some p => exact h5.elim
  | none =>
   have hne : ∀ i v, c.fz b i ≠ some v := fun i v hv => by
    obtain ⟨arr, ee, f, h6, _⟩ := hr.fz _ _ _ hv
    rw [h1] at h6
    cases h6
   obtain ⟨h6, h7⟩ := dC (o' := .map (es ++ [(key, v)])) (w' := { w with heap := w.heap.setIfInBounds b (.map (ents.push { key := e k, val := e x, born := clock }) (clock + 1)) }) hr hlk hb hb (cS.refl _) (fun _ _ => rfl) (fun _ _ _ h => h) (fun _ _ _ h => .inl h) (fun r hr => .inl hr) (setObj_but w b _)
    (fun b' i v hb hv => by cases hb; exact absurd hv (hne i v)) ⟨ents.push { key := e k, val := e x, born := clock }, clock + 1, by simp [hlt], by simpa using h2.append (e := { key := e k, val := e x, born := clock }) hku hxv⟩
   refine cZ.skip (S := Instr.mapUpdate t (e m) (e k) (e x)) (by rcases ho with ho | ho <;> simp only [execOp, ho]) ?_ h6 h7
   simp only [hmv, Instr.mapUpdate, Sem.run_bind, run_underlying hu, Result.andThen_ok, MapKept.run_getObj_map h1, MapKept.run_checkKey hdk' hkey, MapKept.run_findKey hdk' h4, MapKept.run_setObj_map _ h1]⟩
def fN (l : List UInt8) : List (List SVal) := l.map fun b => [SVal.int .u8 b.toNat]
theorem iC : ∀ l : List UInt8, (fN l).flatten = l.map fun b => SVal.int .u8 b.toNat
 | [] => rfl
 | b :: l => by rw [fN, List.map_cons, List.flatten_cons, ← fN, iC l]; rfl
theorem nc {c : Ctx} : ∀ {l : List UInt8} {vs : List Value}, aM c (l.map fun b => SVal.int .u8 b.toNat) vs → vs = l.map fun b => Value.int .u8 b.toNat
 | [], vs, h => h
 | b :: l, vs, ⟨v, r, h1, h2, h3⟩ => by cases h1; rw [h3, nc h2]; rfl
theorem oQ (w : World) {g : Value → ByteArray → Sem (ForInStep ByteArray)} (hg : ∀ n s, (g (.int .u8 n) s).run P w = .ok (.yield (s.push (UInt8.ofNat n.toNat))) w) : ∀ (is : List Int) (s : ByteArray),
  (forIn (is.map fun n => Value.int .u8 n) s g : Sem ByteArray).run P w = .ok (is.foldl (fun s n => s.push (UInt8.ofNat n.toNat)) s) w
 | [], s => rfl
 | n :: is, s => by
  simp only [List.map_cons, List.forIn_cons, Sem.run_bind, hg, Result.andThen_ok, List.foldl_cons]
  exact oQ w hg is _
theorem foldl_push : ∀ (is : List Int) (s : ByteArray), (is.foldl (fun s n => s.push (UInt8.ofNat n.toNat)) s) = ⟨s.data ++ (is.map fun n => UInt8.ofNat n.toNat).toArray⟩
 | [], s => by simp
 | n :: is, s => by
  rw [List.foldl_cons, foldl_push is]
  refine congrArg ByteArray.mk ?_
  show s.data.push _ ++ _ = _
  simp
theorem qx (hE : a7 P E) {a b e8 : TypeId} {x : Operand} {s : SVal} {l : List UInt8} (ho : o.op = .convert a b x) (hx : ev x = some s) (ha : under E a = some (.slice e8)) (hb : under E b = some .string) (h8 : under E e8 = some (.int .u8)) (hs : cH st s (fN l)) : bg P o ev st (.str l) st :=
 ⟨by simp [ho], Sta.refl _, fun {c w} hr _ _ {e} he => by
  obtain ⟨ad, cap, hu, hcap, news, h1, h2, h3, h4⟩ := hs.spec hr (he x (by simp [ho, Op.operands]) _ hx) (sz := 1) (fun r hr => by
   obtain ⟨b, _, rfl⟩ := List.mem_map.1 hr
   rfl)
  rw [iC] at h1
  have hn := nc h1
  have hlen : (fN l).length = l.length := by simp [fN]
  refine cZ.val (S := convert a b (e x)) (by simp only [execOp, ho]) (Ran.same hr (v := .string ⟨l.toArray⟩) ?_ rfl)
  have ua := bu hE ha
  have ub := bu hE hb
  have u8 := bu hE h8
  rw [hu, hlen]
  rcases h4 with h4 | ⟨bb, base, rfl, h4⟩
  ·have hl : l = [] := by
    have : (fN l).length = 0 := by rw [h4]; rfl
    exact List.length_eq_zero_iff.1 (by omega)
   subst hl
   cases ad with
   | none => simp [convert, run_underlying ua, run_underlying ub, run_underlying u8, Conv.bytesToString]; rfl
   | some ad => simp [convert, run_underlying ua, run_underlying ub, run_underlying u8, Conv.bytesToString, loadCells]; rfl
  ·have hrun := run_loadCells_list (P := P) w ⟨bb, base, none⟩ news fun j v hv => by rw [eS]; exact h4 j v hv
   rw [h2, hlen, Nat.mul_one] at hrun
   have hn2 : news = (l.map fun b => (b.toNat : Int)).map fun n => Value.int .u8 n := by rw [hn, List.map_map]; rfl
   simp only [convert, Sem.run_bind, run_underlying ua, run_underlying ub, run_underlying u8, Result.andThen_ok, Conv.bytesToString, hrun]
   rw [← Array.forIn_toList]
   simp only [hn2]
   rw [oQ (P := P) w (fun n s => by rfl) _ ByteArray.empty, foldl_push]
   simp only [Result.andThen_ok, Sem.run_pure]
   congr 3
   have e3 : ((fun n : Int => UInt8.ofNat n.toNat) ∘ fun b : UInt8 => (b.toNat : Int)) = id := funext fun b => by simp
   simp [e3]⟩
end
noncomputable def Fr.set (fr : Fr) (d : Nat) (v : SVal) : Option Fr := whn (Nat.ble (Nat.succ d) fr.n) (some ⟨fr.n, (d, v) :: fr.t⟩)
theorem dZ {fr fr' : Fr} {d : Nat} {v : SVal} (h : fr.set d v = some fr') : d < fr.n ∧ fr'.n = fr.n ∧ ∀ t, fr'.get t = if t = d then some v else fr.get t := by
 unfold Fr.set at h
 rw [dJ] at h
 obtain ⟨h1, h3⟩ := h
 cases h3
 refine ⟨cr h1, rfl, fun t => ?_⟩
 show ba ((d, v) :: fr.t) t = _
 rw [bI]
 by_cases e : t = d
 ·rw [if_pos e, if_pos e.symm]
 ·rw [if_neg e, if_neg (Ne.symm e)]; rfl
structure jb (D : List Deferred) (c : Ctx) (fr : Fr) (a : Act) : Prop where
 size : a.tmps.size = fr.n
 get : ∀ t s, fr.get t = some s → ∃ v, a.tmps[t]? = some v ∧ Den c s v
 defers : a.defers = D
theorem jb.le {D : List Deferred} {c c' : Ctx} {fr : Fr} {a : Act} (h : jb D c fr a) (hle : Le c c') : jb D c' fr a :=
 ⟨h.size, fun t s ht => let ⟨v, h1, h2⟩ := h.get t s ht; ⟨v, h1, Den.le hle _ _ h2⟩, h.defers⟩
noncomputable def nJ (fr : Fr) (d : Option Nat) (v : SVal) : Option Fr :=
 Option.rec (motive := fun _ => Option Fr) (some fr) (fun d => fr.set d v) d
theorem gb {fr fr' : Fr} {v : SVal} (h : nJ fr none v = some fr') : fr' = fr := by cases h; rfl
theorem fb {fr fr' : Fr} {d : Nat} {v : SVal} (h : nJ fr (some d) v = some fr') : fr.set d v = some fr' := h
theorem jb.put {D : List Deferred} {c : Ctx} {fr fr' : Fr} {a : Act} {d : Option Nat} {s : SVal} {v : Value} (h : jb D c fr a) (hp : nJ fr d s = some fr') (hd : Den c s v) : jb D c fr' (a.put d v) := by
 cases d with
 | none => cases gb hp; exact h
 | some d =>
  obtain ⟨h1, h2, h3⟩ := dZ (fb hp)
  refine ⟨by simp [Act.put, h.size, h2], fun t s' ht => ?_, h.defers⟩
  rw [h3] at ht
  by_cases e : t = d
  ·subst e
   rw [if_pos rfl] at ht
   cases ht
   exact ⟨v, by simp [Act.put, h.size, h1], hd⟩
  ·rw [if_neg e] at ht
   obtain ⟨v', h4, h5⟩ := h.get t s' ht
   exact ⟨v', by simp [Act.put, Array.getElem?_setIfInBounds_ne (Ne.symm e), h4], h5⟩
noncomputable def evS (fr : Fr) (x : Operand) : Option SVal :=
 Operand.rec (motive := fun _ => Option SVal) (fun t => fr.get t) (fun v => ofV 4 v) (fun _ => none) (fun f => some (.func (.func f) [] [])) x
theorem jb.eval {D : List Deferred} {c : Ctx} {fr : Fr} {a : Act} (h : jb D c fr a) (x : Operand) (s : SVal) (hs : evS fr x = some s) : Den c s (a.eval x) := by
 cases x with
 | tmp t =>
  obtain ⟨v, h1, h2⟩ := h.get t s hs
  rw [show a.eval (.tmp t) = v by simp [Act.eval, Array.getD_eq_getD_getElem?, h1]]
  exact h2
 | const v => exact vz hs c
 | global g => cases hs
 | func f => cases hs; exact ⟨[], [], rfl, rfl, rfl⟩
noncomputable def fA (b : Bool) : SVal → Option Bool
 | .bool c => some (c == b)
 | .tup [] => some false
 | _ => none
noncomputable def jt (ops : List Oper) (fr : Fr) (g : Option (Nat × Bool)) : Option Bool :=
 Option.rec (motive := fun _ => Option Bool) (some true) (fun p => bnd (ops[p.1]?) fun q => bnd q.dst fun d => bnd (fr.get d) fun v => fA p.2 v) g
def saysB : Value → Option Bool
 | .bool c => some c
 | _ => none
theorem mO {b r : Bool} {s : SVal} (h : fA b s = some r) {c : Ctx} {v : Value} (hd : Den c s v) : (saysB v == some b) = r := by
 unfold fA at h
 split at h
 ·cases h; cases hd; rename_i c; cases c <;> cases b <;> rfl
 ·cases h; obtain ⟨vs, h1, rfl⟩ := hd; cases h1; cases b <;> rfl
 ·cases h
theorem wN {all : List Oper} {ops : Array Oper} (hall : all = ops.toList) {fr : Fr} {o : Oper} {b : Bool} (h : jt all fr o.guard = some b) {c : Ctx} {tmps : Array Value} (hf : ∀ t s, fr.get t = some s → ∃ v, tmps[t]? = some v ∧ Den c s v) : Region.wanted o (yielded ops tmps) = b := by
 unfold Region.wanted
 cases hg : o.guard with
 | none => rw [hg] at h; cases h; rfl
 | some p =>
  obtain ⟨j, want⟩ := p
  rw [hg] at h
  have h : bnd (all[j]?) (fun q => bnd q.dst fun d => bnd (fr.get d) fun v => fA want v) = some b := h
  rw [aU] at h
  obtain ⟨q, h1, h⟩ := h
  rw [aU] at h
  obtain ⟨d, h2, h⟩ := h
  rw [aU] at h
  obtain ⟨s, h3, h4⟩ := h
  obtain ⟨v, h5, h6⟩ := hf d s h3
  have h1 : ops[j]? = some q := by rw [hall] at h1; simpa using h1
  have := mO h4 h6
  simp only [yielded, h1, Option.bind_some, h2, h5]
  cases v <;> exact this
def gj (ro : Option Nat) : Fence := { Fence.wide with round := ro }
theorem bg.wp {P : Program} {o : Oper} {ev : Evl} {st st' : St} {s : SVal} (h : bg P o ev st s st') (ro : Option Nat) {a : Act} {w : World} {next : Act → World → Prop} {Q : Exit → Act → World → Prop}
  (k : o.uponIn Fence.wide 0 P a next Q ((execOp a.eval o).run P w)) : o.wpIn (gj ro) 0 P a w next Q := by
 refine ⟨fun _ _ => trivial, ?_⟩
 have e := Oper.semAt_eq ro a.eval o h.nd
 show o.uponIn (gj ro) 0 P a next Q ((Oper.semAt ro a.eval o).run P w)
 rw [e]
 exact k
def wG (P : Program) (ops : Array Oper) (l : List Oper) (fr : Fr) (st : St) (fr' : Fr) (st' : St) : Prop :=
 Sta st st' ∧ fr'.n = fr.n ∧ ∀ {ro : Option Nat} {D : List Deferred} {c : Ctx} {w : World} {a : Act}, Rep c st.look w → Wf st → mc c st.next st'.next → jb D c fr a → ∀ {Q : Exit → Act → World → Prop},
  (∀ c' a' w', jb D c' fr' a' → Rep c' st'.look w' → Step st.next st'.next c st.look w c' st'.look w' → Q .normal a' w') → wpListIn (gj ro) 0 P ops Q l a w
def sI (P : Program) (ops : Array Oper) (l : List Oper) (fr : Fr) (st : St) (Φ : Fr → St → Prop) : Prop := ∃ fr' st', wG P ops l fr st fr' st' ∧ Φ fr' st'
section
variable {P : Program} {ops : Array Oper} {l : List Oper} {o : Oper} {fr fr1 : Fr} {st st1 : St} {s : SVal} {Φ : Fr → St → Prop}
theorem putS_n {d : Option Nat} (h : nJ fr d s = some fr1) : fr1.n = fr.n := by
 cases d with
 | none => rw [gb h]
 | some d => exact (dZ (fb h)).2.1
theorem ops_nil (h : Φ fr st) : sI P ops [] fr st Φ := ⟨fr, st, ⟨Sta.refl _, rfl, fun {_ _ c w a} hr _ _ hf _ hq => hq c a w hf hr (Step.refl _ _ _ _)⟩, h⟩
theorem ops_cons (hw : jt ops.toList fr o.guard = some true) (ho : bg P o (evS fr) st s st1) (hp : nJ fr o.dst s = some fr1) (h : sI P ops l fr1 st1 Φ) : sI P ops (o :: l) fr st Φ := by
 obtain ⟨fr', st', ⟨h5, h6, h7⟩, h8⟩ := h
 refine ⟨fr', st', ⟨ho.sta.trans h5, h6.trans (putS_n hp), fun {ro D c w a} hr hwf hf hfr Q hq => ?_⟩, h8⟩
 unfold wpListIn
 rw [wN rfl hw hfr.get]
 refine ho.wp ro (ho.ok hr hwf (hf.mono (Nat.le_refl _) h5.next) (e := a.eval) (fun x _ s => hfr.eval x s) a _ Q fun c1 v w1 hg => ?_)
 refine h7 hg.rep (hwf.sta ho.sta) (hf.step hg.step ho.sta.next) ((hfr.le hg.step.le).put hp hg.val) fun c2 a2 w2 k1 k2 k3 => ?_
 exact hq c2 a2 w2 k1 k2 (hg.step.trans k3 ho.sta.next h5.next)
theorem ops_skip (hw : jt ops.toList fr o.guard = some false) (hp : nJ fr o.dst (.tup []) = some fr1) (h : sI P ops l fr1 st Φ) : sI P ops (o :: l) fr st Φ := by
 obtain ⟨fr', st', ⟨h5, h6, h7⟩, h8⟩ := h
 refine ⟨fr', st', ⟨h5, h6.trans (putS_n hp), fun {ro D c w a} hr hwf hf hfr Q hq => ?_⟩, h8⟩
 unfold wpListIn
 rw [wN rfl hw hfr.get]
 exact ⟨fun _ _ => trivial, h7 hr hwf hf (hfr.put hp ⟨[], rfl, rfl⟩) hq⟩
theorem jb.sub {D : List Deferred} {c : Ctx} {a : Act} (h : jb D c fr a) (hn : fr1.n = fr.n) (hs : ∀ t s, fr1.get t = some s → fr.get t = some s) : jb D c fr1 a := ⟨by rw [hn]; exact h.size, fun t s ht => h.get t s (hs t s ht), h.defers⟩
end
theorem frame_step {lo hi : Nat} {c c' : Ctx} {w w' : World} {G G' H H' : eT} (T : Nat → Prop) (hr : Rep c H w) (hsub : ∀ n o, G n = some o → H n = some o) (hr' : Rep c' G' w') (hs : Step lo hi c G w c' G' w')
  (h1 : ∀ n, T n → H' n = G' n) (h2 : ∀ n, ¬ T n → H' n = H n) (h3 : ∀ n, ¬ T n → G' n = G n) : Rep c' H' w' ∧ Step lo hi c H w c' H' w' := by
 have own_up : ∀ r, eD c G r → eD c H r := fun r ⟨m, o, l, a, b, d⟩ => ⟨m, o, l, hsub _ _ a, b, d⟩
 have split : ∀ n o, H' n = some o → G' n = some o ∨ (H n = some o ∧ G n = none ∧ ¬ T n) := fun n o hn => by
  by_cases ht : T n
  ·exact .inl ((h1 n ht) ▸ hn)
  ·have hH : H n = some o := (h2 n ht) ▸ hn
   cases hg : G n with
   | none => exact .inr ⟨hH, rfl, ht⟩
   | some o' =>
    have := hsub _ _ hg
    rw [hH] at this
    cases this
    exact .inl ((h3 n ht).trans hg)
 have outer : ∀ n o, H n = some o → G n = none → ∃ l, c.ρ n = some l ∧ c'.ρ n = some l ∧ dG c o l w ∧ ∀ r, fX l = some r → r < w.heap.size ∧ ¬ eD c G r := fun n o hn hg => by
  obtain ⟨l, a, b⟩ := hr.cW n o hn
  refine ⟨l, a, (hs.hid n l hg a).2, b, fun r hlr => ⟨b.lt hlr, fun ⟨m, om, lm, d, e, f⟩ => ?_⟩⟩
  have hne : m ≠ n := fun q => by subst q; rw [hg] at d; cases d
  exact hr.sep m n om o lm l r (hsub _ _ d) hn hne e a f hlr
 have mixed : ∀ n o l m o2 l2 r, G' n = some o → c'.ρ n = some l → fX l = some r → H m = some o2 → G m = none → c'.ρ m = some l2 → fX l2 ≠ some r := fun n o l m o2 l2 r a b d e f g hq => by
  obtain ⟨l3, g1, g2, g3, g4⟩ := outer m o2 e f
  rw [g2] at g
  cases g
  obtain ⟨g5, g6⟩ := g4 r hq
  rcases hs.owns r ⟨n, o, l, a, b, d⟩ with h | h
  ·exact g6 h
  ·omega
 refine ⟨⟨fun n o hn => ?_, fun n m o1 o2 l1 l2 r hn hm hne hl1 hl2 hb1 hb2 => ?_, hr'.fz⟩, ⟨hs.le, hs.off, fun k l hk hl => ?_, hs.os, hs.tape, hs.output, hs.size, fun r hr0 hno => hs.kept r hr0 fun h => hno (own_up r h), fun r ⟨n, o, l, hn, hl, hb⟩ => ?_, fun b i v hv => ?_⟩⟩
 ·rcases split n o hn with h | ⟨h, hg, _⟩
  ·exact hr'.cW n o h
  ·obtain ⟨l, a, b, d, e⟩ := outer n o h hg
   refine ⟨l, b, d.pk hs.le (fun r hlr => hs.kept r (e r hlr).1 (e r hlr).2) fun r hlr i v hv => ?_⟩
   rcases hs.nfz r i v hv with q | q | q
   ·exact q
   ·exact absurd q (e r hlr).2
   ·have := (e r hlr).1; omega
 ·rcases split n o1 hn with h | ⟨h, hg, _⟩
  ·rcases split m o2 hm with k | ⟨k, kg, _⟩
   ·exact hr'.sep n m o1 o2 l1 l2 r h k hne hl1 hl2 hb1 hb2
   ·exact mixed n o1 l1 m o2 l2 r h hl1 hb1 k kg hl2 hb2
  ·rcases split m o2 hm with k | ⟨k, kg, _⟩
   ·exact mixed m o2 l2 n o1 l1 r k hl2 hb2 h hg hl1 hb1
   ·obtain ⟨l, a, b, _⟩ := outer n o1 h hg
    obtain ⟨l3, d, e, _⟩ := outer m o2 k kg
    rw [b] at hl1
    cases hl1
    rw [e] at hl2
    cases hl2
    exact hr.sep n m o1 o2 l1 l2 r h k hne a d hb1 hb2
 ·have hg : G k = none := by
   cases hg : G k with
   | none => rfl
   | some o => rw [hsub _ _ hg] at hk; cases hk
  obtain ⟨e1, e2⟩ := hs.hid k l hg hl
  refine ⟨?_, e2⟩
  by_cases ht : T k
  ·rw [h1 k ht]; exact e1
  ·rw [h2 k ht]; exact hk
 ·rcases split n o hn with h | ⟨h, hg, _⟩
  ·exact (hs.owns r ⟨n, o, l, h, hl, hb⟩).imp (own_up r) id
  ·obtain ⟨l3, a, b, _⟩ := outer n o h hg
   rw [b] at hl
   cases hl
   exact .inl ⟨n, o, l, h, a, hb⟩
 ·exact (hs.nfz b i v hv).imp id fun h => h.imp (own_up b) id
structure Tch where
 j : Nat
 lo : Nat
 hi : Nat
 log : List Nat
noncomputable def ordered (before : List Nat) (j k : Nat) : Bool := ((before.getD k 0).testBit j) || ((before.getD j 0).testBit k)
noncomputable def yb (r : List (Nat × Nat)) : List Nat → List (Nat × Nat)
 | [] => r
 | n :: l => (n, Nat.succ n) :: yb r l
noncomputable def hJ (before : List Nat) (k : Nat) (ts : List Tch) (r : List (Nat × Nat)) : List (Nat × Nat) :=
 List.rec (motive := fun _ => List (Nat × Nat)) r (fun t _ ih => Bool.rec (Bool.rec ((t.lo, t.hi) :: yb ih t.log) ih (ordered before t.j k)) ih (Nat.beq t.j k)) ts
noncomputable def below (m : Nat) (l : List Nat) : List Nat :=
 List.rec (motive := fun _ => List Nat) [] (fun n _ ih => Bool.rec ih (n :: ih) (Nat.ble (Nat.succ n) m)) l
noncomputable def dE (before : List Nat) (k m : Nat) (ts : List Tch) (r : List (Nat × Nat)) : List (Nat × Nat) :=
 List.rec (motive := fun _ => List (Nat × Nat)) r (fun t _ ih => Bool.rec (Bool.rec (yb ih (below m t.log)) ih (ordered before t.j k)) ih (Nat.beq t.j k)) ts
noncomputable def ko (j lo hi : Nat) (log : List Nat) (acc : List Tch) : List Tch :=
 match log with
 | [] => Bool.rec (⟨j, lo, hi, []⟩ :: acc) acc (Nat.beq lo hi)
 | _ :: _ => ⟨j, lo, hi, log⟩ :: acc
noncomputable def subL : List Nat → List Nat → Bool
 | [], _ => true
 | n :: r, b => match b.any (Nat.beq n) with
  | true => subL r b
  | false => false
noncomputable def iX (before : List Nat) (j : Nat) : Nat → Bool
 | 0 => true
 | k + 1 => match ordered before k j with
  | true => iX before j k
  | false => false
noncomputable def fk (before : List Nat) (sup : List Tch) : List Tch → Bool
 | [] => true
 | t :: ts => match t.log with
  | [] => fk before sup ts
  | _ :: _ => match iX before t.j t.j with
   | true => fk before sup ts
   | false => match sup.any (fun s => match Nat.beq s.j t.j with | true => subL t.log s.log | false => false) with
    | true => fk before sup ts
    | false => false
noncomputable def relB (ops : List Oper) (n : Nat) : Bool :=
 ops.zipIdx.all fun x =>
  (x.1.looksAt ops.toArray).all (fun t => ops.zipIdx.all fun y => y.1.dst != some t || (decide (y.2 < x.2) && x.1.after.any (fun e => e.on == y.2 && Region.binds .any e)) || (decide (x.2 < y.2) && y.1.after.any (fun e => e.on == x.2 && Region.binds .any e))) &&
  ops.zipIdx.all (fun y => y.2 == x.2 || y.1.dst == none || y.1.dst != x.1.dst) &&
  (match x.1.dst with | some d => decide (d < n) | none => true) &&
  x.1.after.all (fun e => !Region.binds .any e || decide (e.on < x.2))
inductive ka (ops : Array Oper) : Nat → Nat → Prop where
 | one {k : Nat} {o : Oper} {e : Edge} : ops[k]? = some o → e ∈ o.after → Region.binds .any e = true → ka ops k e.on
 | more {k j : Nat} {o : Oper} {e : Edge} : ops[k]? = some o → e ∈ o.after → Region.binds .any e = true → ka ops e.on j → ka ops k j
theorem mi {f : Nat → Edge → Nat} {Q : Edge → Nat → Prop} (hf : ∀ s e j, (f s e).testBit j = true → s.testBit j = true ∨ Q e j) : ∀ (l : List Edge) (s j : Nat), (l.foldl f s).testBit j = true → s.testBit j = true ∨ ∃ e ∈ l, Q e j
 | [], s, j, h => .inl h
 | e :: l, s, j, h => by
  rcases mi hf l (f s e) j h with h1 | ⟨e', h1, h2⟩
  ·rcases hf s e j h1 with h2 | h2
   ·exact .inl h2
   ·exact .inr ⟨e, .head _, h2⟩
  ·exact .inr ⟨e', .tail _ h1, h2⟩
theorem pc (ops : Array Oper) : ∀ (l : List Oper) (acc : Array Nat), (∀ i, l[i]? = ops[acc.size + i]?) → (∀ k j, (acc.getD k 0).testBit j = true → ka ops k j) →
  ∀ k j, (((l.foldl (fun acc o => acc.push (o.after.foldl (fun s e => if Region.binds .any e then s ||| 2 ^ e.on ||| acc.getD e.on 0 else s) 0)) acc)).getD k 0).testBit j = true → ka ops k j
 | [], acc, _, h => h
 | o :: l, acc, hl, h => by
  rw [List.foldl_cons]
  refine pc ops l _ (fun i => ?_) fun k j hk => ?_
  ·have := hl (i + 1)
   simp only [List.getElem?_cons_succ] at this
   rw [this, Array.size_push]
   congr 1
   omega
  ·have ho : ops[acc.size]? = some o := by have := hl 0; simpa using this.symm
   rw [Array.getD_eq_getD_getElem?, Array.getElem?_push] at hk
   split at hk
   ·rename_i e
    subst e
    simp only [Option.getD_some] at hk
    rw [← Array.foldl_toList] at hk
    rcases mi (Q := fun e j => Region.binds .any e = true ∧ (j = e.on ∨ (acc.getD e.on 0).testBit j = true)) (fun s e j hb => by
     split at hb
     ·rename_i hbd
      rw [Nat.testBit_or, Nat.testBit_or, Bool.or_eq_true, Bool.or_eq_true] at hb
      rcases hb with (hb | hb) | hb
      ·exact .inl hb
      ·rw [Nat.testBit_two_pow] at hb
       exact .inr ⟨hbd, .inl (by simpa using (of_decide_eq_true hb).symm)⟩
      ·exact .inr ⟨hbd, .inr hb⟩
     ·exact .inl hb) o.after.toList 0 j hk with h1 | ⟨e, h1, h2, h3⟩
    ·simp at h1
    ·have h1 : e ∈ o.after := by simpa using h1
     rcases h3 with rfl | h3
     ·exact .one ho h1 h2
     ·exact .more ho h1 h2 (h _ _ h3)
   ·rename_i hne
    rw [← Array.getD_eq_getD_getElem?] at hk
    exact h k j hk
theorem ni {ops : Array Oper} {k j : Nat} (h : (((Region.before ops).toList).getD k 0).testBit j = true) : ka ops k j := by
 unfold Region.before at h
 rw [← Array.foldl_toList] at h
 refine pc ops ops.toList #[] (fun i => by simp) (fun k j hk => by simp at hk) k j ?_
 rw [Array.getD_eq_getD_getElem?]
 rw [List.getD_eq_getElem?_getD] at h
 simpa using h
theorem pd (n : Nat) (p : Nat × Nat) (l : List (Nat × Nat)) : bN n (p :: l) = true ↔ (p.1 ≤ n ∧ n < p.2) ∨ bN n l = true := by
 show @Bool.rec (fun _ => Bool) (bN n l) (@Bool.rec (fun _ => Bool) (bN n l) true (Nat.ble (Nat.succ n) p.2)) (Nat.ble p.1 n) = true ↔ _
 cases h1 : Nat.ble p.1 n with
 | false =>
  have := lh h1
  simp only
  constructor
  ·intro h; exact .inr h
  ·rintro (h | h)
   ·omega
   ·exact h
 | true =>
  have h1 := cr h1
  cases h2 : Nat.ble (Nat.succ n) p.2 with
  | false =>
   have := lh h2
   simp only
   constructor
   ·intro h; exact .inr h
   ·rintro (h | h)
    ·omega
    ·exact h
  | true => have := cr h2; simp; left; omega
theorem jY (n : Nat) (r : List (Nat × Nat)) : ∀ l, bN n (yb r l) = true ↔ n ∈ l ∨ bN n r = true
 | [] => by simp [yb]
 | m :: l => by
  rw [yb, pd, jY n r l, List.mem_cons]
  constructor
  ·rintro (h | h | h)
   ·exact .inl (.inl (by omega))
   ·exact .inl (.inr h)
   ·exact .inr h
  ·rintro ((h | h) | h)
   ·exact .inl (by omega)
   ·exact .inr (.inl h)
   ·exact .inr (.inr h)
theorem below_cons (m n : Nat) (l : List Nat) : below m (n :: l) = @Bool.rec (fun _ => List Nat) (below m l) (n :: below m l) (Nat.ble (Nat.succ n) m) := rfl
theorem im {m n : Nat} : ∀ {l : List Nat}, n ∈ below m l ↔ n ∈ l ∧ n < m
 | [] => by simp [below]
 | x :: l => by
  rw [below_cons]
  cases h : Nat.ble (Nat.succ x) m with
  | true =>
   have := cr h
   simp only [List.mem_cons, im (l := l)]
   constructor
   ·rintro (h | h)
    ·exact ⟨.inl h, by omega⟩
    ·exact ⟨.inr h.1, h.2⟩
   ·rintro ⟨h | h, h2⟩
    ·exact .inl h
    ·exact .inr ⟨h, h2⟩
  | false =>
   have := lh h
   simp only [List.mem_cons, im (l := l)]
   constructor
   ·rintro h; exact ⟨.inr h.1, h.2⟩
   ·rintro ⟨h | h, h2⟩
    ·omega
    ·exact ⟨h, h2⟩
theorem ek (before : List Nat) (k n : Nat) (r : List (Nat × Nat)) : ∀ ts, bN n (hJ before k ts r) = true ↔ bN n r = true ∨ ∃ t ∈ ts, t.j ≠ k ∧ ordered before t.j k = false ∧ ((t.lo ≤ n ∧ n < t.hi) ∨ n ∈ t.log)
 | [] => by simp [hJ]
 | t :: ts => by
  have ih := ek before k n r ts
  have e : hJ before k (t :: ts) r = @Bool.rec (fun _ => List (Nat × Nat)) (@Bool.rec (fun _ => List (Nat × Nat)) ((t.lo, t.hi) :: yb (hJ before k ts r) t.log) (hJ before k ts r) (ordered before t.j k)) (hJ before k ts r) (Nat.beq t.j k) := rfl
  rw [e]
  simp only [List.mem_cons, exists_eq_or_imp]
  cases h1 : Nat.beq t.j k with
  | true =>
   have h1 := beq_true h1
   simp only [ih]
   constructor
   ·rintro (h | h)
    ·exact .inl h
    ·exact .inr (.inr h)
   ·rintro (h | h | h)
    ·exact .inl h
    ·exact absurd h1 h.1
    ·exact .inr h
  | false =>
   have h1 := beq_false h1
   cases h2 : ordered before t.j k with
   | true =>
    simp only [ih]
    constructor
    ·rintro (h | h)
     ·exact .inl h
     ·exact .inr (.inr h)
    ·rintro (h | h | h)
     ·exact .inl h
     ·cases h.2.1
     ·exact .inr h
   | false =>
    simp only [pd, jY, ih]
    constructor
    ·rintro (h | h | h | h)
     ·exact .inr (.inl ⟨h1, trivial, .inl h⟩)
     ·exact .inr (.inl ⟨h1, trivial, .inr h⟩)
     ·exact .inl h
     ·exact .inr (.inr h)
    ·rintro (h | ⟨_, _, h | h⟩ | h)
     ·exact .inr (.inr (.inl h))
     ·exact .inl h
     ·exact .inr (.inl h)
     ·exact .inr (.inr (.inr h))
theorem dW (before : List Nat) (k m n : Nat) (r : List (Nat × Nat)) : ∀ ts, bN n (dE before k m ts r) = true ↔ bN n r = true ∨ ∃ t ∈ ts, t.j ≠ k ∧ ordered before t.j k = false ∧ n ∈ t.log ∧ n < m
 | [] => by simp [dE]
 | t :: ts => by
  have ih := dW before k m n r ts
  have e : dE before k m (t :: ts) r = @Bool.rec (fun _ => List (Nat × Nat)) (@Bool.rec (fun _ => List (Nat × Nat)) (yb (dE before k m ts r) (below m t.log)) (dE before k m ts r) (ordered before t.j k)) (dE before k m ts r) (Nat.beq t.j k) := rfl
  rw [e]
  simp only [List.mem_cons, exists_eq_or_imp]
  cases h1 : Nat.beq t.j k with
  | true =>
   have h1 := beq_true h1
   simp only [ih]
   constructor
   ·rintro (h | h)
    ·exact .inl h
    ·exact .inr (.inr h)
   ·rintro (h | h | h)
    ·exact .inl h
    ·exact absurd h1 h.1
    ·exact .inr h
  | false =>
   have h1 := beq_false h1
   cases h2 : ordered before t.j k with
   | true =>
    simp only [ih]
    constructor
    ·rintro (h | h)
     ·exact .inl h
     ·exact .inr (.inr h)
    ·rintro (h | h | h)
     ·exact .inl h
     ·cases h.2.1
     ·exact .inr h
   | false =>
    simp only [jY, ih, im]
    constructor
    ·rintro (h | h | h)
     ·exact .inr (.inl ⟨h1, trivial, h⟩)
     ·exact .inl h
     ·exact .inr (.inr h)
    ·rintro (h | ⟨_, _, h⟩ | h)
     ·exact .inr (.inl h)
     ·exact .inl h
     ·exact .inr (.inr h)
theorem vv (before : List Nat) (j k : Nat) : ordered before j k = ordered before k j := by
 unfold ordered
 rw [Bool.or_comm]
theorem lu {ops : Array Oper} {j k : Nat} (h : ordered (Region.before ops).toList j k = true) : ka ops k j ∨ ka ops j k := by
 unfold ordered at h
 rw [Bool.or_eq_true] at h
 exact h.imp ni ni
theorem jg {before : List Nat} {j : Nat} : ∀ {m : Nat}, iX before j m = true → ∀ k, k < m → ordered before k j = true
 | 0, _, k, hk => by omega
 | m + 1, h, k, hk => by
  unfold iX at h
  split at h
  ·rename_i h1
   by_cases e : k = m
   ·subst e; exact h1
   ·exact jg h k (by omega)
  ·cases h
theorem tG : ∀ {l b : List Nat}, subL l b = true → ∀ n ∈ l, n ∈ b
 | [], _, _, n, hn => by cases hn
 | x :: l, b, h, n, hn => by
  unfold subL at h
  split at h
  ·rename_i h1
   rcases List.mem_cons.1 hn with rfl | hn
   ·exact wD h1
   ·exact tG h n hn
  ·cases h
theorem gO {before : List Nat} {sup : List Tch} : ∀ {ts : List Tch}, fk before sup ts = true → ∀ t ∈ ts, ∀ n ∈ t.log, (∀ k, k < t.j → ordered before k t.j = true) ∨ ∃ s ∈ sup, s.j = t.j ∧ n ∈ s.log
 | [], _, t, ht, _, _ => by cases ht
 | x :: ts, h, t, ht, n, hn => by
  unfold fk at h
  split at h
  ·rename_i h0
   rcases List.mem_cons.1 ht with rfl | ht
   ·rw [h0] at hn; cases hn
   ·exact gO h t ht n hn
  ·split at h
   ·rename_i h1
    rcases List.mem_cons.1 ht with rfl | ht
    ·exact .inl fun k hk => jg h1 k hk
    ·exact gO h t ht n hn
   ·split at h
    ·rename_i h1
     rcases List.mem_cons.1 ht with rfl | ht
     ·rw [List.any_eq_true] at h1
      obtain ⟨s, hs, h2⟩ := h1
      split at h2
      ·rename_i h3
       exact .inr ⟨s, hs, beq_true h3, tG h2 n hn⟩
      ·cases h2
     ·exact gO h t ht n hn
    ·cases h
structure tq (ops : Array Oper) (n : Nat) : Prop where
 dep : ∀ (k : Nat) (o : Oper), ops[k]? = some o → ∀ t ∈ o.looksAt ops, ∀ (j : Nat) (o' : Oper), ops[j]? = some o' → o'.dst = some t → (j < k ∧ ∃ e ∈ o.after, e.on = j ∧ Region.binds .any e = true) ∨ (k < j ∧ ∃ e ∈ o'.after, e.on = k ∧ Region.binds .any e = true)
 dist : ∀ (k : Nat) (o : Oper), ops[k]? = some o → ∀ (j : Nat) (o' : Oper), ops[j]? = some o' → o.dst ≠ none → o'.dst = o.dst → j = k
 bound : ∀ (k : Nat) (o : Oper), ops[k]? = some o → ∀ d : Nat, o.dst = some d → d < n
 down : ∀ (k : Nat) (o : Oper), ops[k]? = some o → ∀ e ∈ o.after, Region.binds .any e = true → e.on < k
theorem relB_spec {ops : Array Oper} {n : Nat} (h : relB ops.toList n = true) : tq ops n := by
 unfold relB at h
 rw [List.all_eq_true] at h
 have mem : ∀ k o, ops[k]? = some o → (o, k) ∈ ops.toList.zipIdx := fun k o hk => by
  rw [List.mem_zipIdx_iff_getElem?]; simpa using hk
 refine ⟨fun k o hk t ht j o' hj hd => ?_, fun k o hk j o' hj hn he => ?_, fun k o hk d hd => ?_, fun k o hk e he hb => ?_⟩
 ·have := h _ (mem k o hk)
  simp only [Bool.and_eq_true, List.all_eq_true] at this
  have h2 := this.1.1.1 t (by simpa using ht) _ (mem j o' hj)
  rw [hd] at h2
  simp only [bne_self_eq_false, Bool.false_or, Bool.or_eq_true, Bool.and_eq_true, decide_eq_true_eq, Array.any_eq_true', beq_iff_eq] at h2
  exact h2
 ·have := h _ (mem k o hk)
  simp only [Bool.and_eq_true, List.all_eq_true] at this
  have h2 := this.1.1.2 _ (mem j o' hj)
  simp at h2
  rcases h2 with (h2 | h2) | h2
  ·exact h2
  ·rw [← he] at hn; exact absurd h2 hn
  ·exact absurd he h2
 ·have := h _ (mem k o hk)
  simp only [Bool.and_eq_true, List.all_eq_true] at this
  have h2 := this.1.2
  simp [hd] at h2
  exact h2
 ·have := h _ (mem k o hk)
  simp only [Bool.and_eq_true, List.all_eq_true] at this
  have h2 := this.2
  rw [Array.all_eq_true_iff_forall_mem] at h2
  have := h2 e he
  simpa [hb] using this
structure Rcd where
 fr : Fr
 st : St
 s : SVal
 b : Bool
 post : St
 acc : List Tch
noncomputable def inner (before : List Nat) (sup : List Tch) (k : Nat) (R : Rcd) : St := ⟨R.st.heap, R.st.next, R.st.next, [], hJ before k R.acc (dE before k R.st.next sup R.st.ban)⟩
structure du (P : Program) (ops : Array Oper) (before : List Nat) (sup : List Tch) (k : Nat) (o : Oper) (R R' : Rcd) : Prop where
 want : jt ops.toList R.fr o.guard = some R.b
 run : R.b = true → bg P o (evS R.fr) (inner before sup k R) R.s R.post
 not : R.b = false → R.s = .tup [] ∧ R.post = inner before sup k R
 put : nJ R.fr o.dst R.s = some R'.fr
 st : R'.st = ⟨R.post.heap, R.post.next, R.st.mark, below R.st.mark R.post.log ++ R.st.log, R.st.ban⟩
 acc : R'.acc = ko k R.st.next R.post.next R.post.log R.acc
inductive eU (P : Program) (ops : Array Oper) (before : List Nat) (sup : List Tch) : List Oper → Nat → Fr → St → List Tch → Fr → St → List Tch → Prop where
 | nil {k : Nat} {fr : Fr} {st : St} {acc : List Tch} : eU P ops before sup [] k fr st acc fr st acc
 | skip {o : Oper} {l : List Oper} {k : Nat} {fr fr1 fr' : Fr} {st st' : St} {acc acc' : List Tch} : jt ops.toList fr o.guard = some false → nJ fr o.dst (.tup []) = some fr1 → eU P ops before sup l (k + 1) fr1 st acc fr' st' acc' → eU P ops before sup (o :: l) k fr st acc fr' st' acc'
 | cons {o : Oper} {l : List Oper} {k : Nat} {fr fr1 fr' : Fr} {st post st' : St} {acc acc' : List Tch} {s : SVal} : jt ops.toList fr o.guard = some true → bg P o (evS fr) ⟨st.heap, st.next, st.next, [], hJ before k acc (dE before k st.next sup st.ban)⟩ s post →
   nJ fr o.dst s = some fr1 → eU P ops before sup l (k + 1) fr1 ⟨post.heap, post.next, st.mark, below st.mark post.log ++ st.log, st.ban⟩ (ko k st.next post.next post.log acc) fr' st' acc' → eU P ops before sup (o :: l) k fr st acc fr' st' acc'
theorem trace_of {P : Program} {ops : Array Oper} {before : List Nat} {sup : List Tch} {l : List Oper} {k : Nat} {fr fr' : Fr} {st st' : St} {acc acc' : List Tch} (h : eU P ops before sup l k fr st acc fr' st' acc') :
  ∃ R : Nat → Rcd, (R k).fr = fr ∧ (R k).st = st ∧ (R k).acc = acc ∧ ((R (k + l.length)).fr = fr' ∧ (R (k + l.length)).st = st' ∧ (R (k + l.length)).acc = acc') ∧ ∀ (i : Nat) (o : Oper), l[i]? = some o → du P ops before sup (k + i) o (R (k + i)) (R (k + i + 1)) := by
 have fin : ∀ {o : Oper} {l : List Oper} {k : Nat} (R : Nat → Rcd) (rc : Rcd) {fr' : Fr} {st' : St} {acc' : List Tch}, du P ops before sup k o rc (R (k + 1)) → ((R (k + 1 + l.length)).fr = fr' ∧ (R (k + 1 + l.length)).st = st' ∧ (R (k + 1 + l.length)).acc = acc') →
   (∀ (i : Nat) (o : Oper), l[i]? = some o → du P ops before sup (k + 1 + i) o (R (k + 1 + i)) (R (k + 1 + i + 1))) →
   ∃ R : Nat → Rcd, (R k).fr = rc.fr ∧ (R k).st = rc.st ∧ (R k).acc = rc.acc ∧ ((R (k + (o :: l).length)).fr = fr' ∧ (R (k + (o :: l).length)).st = st' ∧ (R (k + (o :: l).length)).acc = acc') ∧
    ∀ (i : Nat) (o' : Oper), (o :: l)[i]? = some o' → du P ops before sup (k + i) o' (R (k + i)) (R (k + i + 1)) := by
  intro o l k R rc fr' st' acc' hs hr hall
  refine ⟨fun j => if j = k then rc else R j, by simp, by simp, by simp, ?_, fun i o' hi => ?_⟩
  ·have : k + 1 + l.length = k + (o :: l).length := by simp; omega
   rw [this] at hr
   have hne : k + (o :: l).length ≠ k := by simp
   simp only [if_neg hne]
   exact hr
  ·cases i with
   | zero =>
    simp only [List.getElem?_cons_zero, Option.some.injEq] at hi
    subst hi
    simpa using hs
   | succ i =>
    have := hall i o' (by simpa using hi)
    have e : k + 1 + i = k + (i + 1) := by omega
    rw [e] at this
    simp only [if_neg (show k + (i + 1) ≠ k by omega), if_neg (show k + (i + 1) + 1 ≠ k by omega)]
    exact this
 induction h with
 | nil =>
  rename_i k fr st acc
  exact ⟨fun _ => ⟨fr, st, .nilPtr, false, st, acc⟩, rfl, rfl, rfl, ⟨rfl, rfl, rfl⟩, fun i o hi => by simp at hi⟩
 | skip h1 h2 _ ih =>
  rename_i o l k fr fr1 fr' st st' acc acc' _
  obtain ⟨R, g1, g2, g3, g4, g5⟩ := ih
  exact fin R ⟨fr, st, .tup [], false, inner before sup k ⟨fr, st, .tup [], false, st, acc⟩, acc⟩ ⟨h1, fun e => (by cases e), fun _ => ⟨rfl, rfl⟩, by rw [g1]; exact h2, by rw [g2]; rfl, by
   rw [g3]
   show acc = @Bool.rec (fun _ => List Tch) (⟨k, st.next, st.next, []⟩ :: acc) acc (Nat.beq st.next st.next)
   rw [Nat.beq_refl]⟩ g4 g5
 | cons h1 h2 h3 _ ih =>
  rename_i o l k fr fr1 fr' st post st' acc acc' s _
  obtain ⟨R, g1, g2, g3, g4, g5⟩ := ih
  exact fin R ⟨fr, st, s, true, post, acc⟩ ⟨h1, fun _ => h2, fun e => (by cases e), by rw [g1]; exact h3, by rw [g2], by rw [g3]⟩ g4 g5
theorem yg {j lo hi : Nat} {log : List Nat} {acc : List Tch} {t : Tch} : t ∈ ko j lo hi log acc ↔ t ∈ acc ∨ (t = ⟨j, lo, hi, log⟩ ∧ (lo ≠ hi ∨ log ≠ [])) := by
 unfold ko
 split
 ·cases h : Nat.beq lo hi with
  | true => have := beq_true h; simp [this]
  | false =>
   have := beq_false h
   simp only [List.mem_cons]
   constructor
   ·rintro (h | h)
    ·exact .inr ⟨h, .inl this⟩
    ·exact .inl h
   ·rintro (h | h)
    ·exact .inr h
    ·exact .inl h.1
 ·simp only [List.mem_cons]
  constructor
  ·rintro (h | h)
   ·exact .inr ⟨h, .inr (by simp)⟩
   ·exact .inl h
  ·rintro (h | h)
   ·exact .inr h
   ·exact .inl h.1
def Touch (R : Rcd) (n : Nat) : Prop := (R.st.next ≤ n ∧ n < R.post.next) ∨ n ∈ R.post.log
instance (R : Rcd) (n : Nat) : Decidable (Touch R n) := by unfold Touch; infer_instance
theorem staI {P : Program} {ops : Array Oper} {sup : List Tch} {R : Nat → Rcd} (hR : ∀ (k : Nat) (o : Oper), ops[k]? = some o → du P ops (Region.before ops).toList sup k o (R k) (R (k + 1))) {k : Nat} {o : Oper} (ho : ops[k]? = some o) : Sta (inner (Region.before ops).toList sup k (R k)) (R k).post := by
 have h := hR k o ho
 cases hb : (R k).b with
 | true => exact (h.run hb).sta
 | false => rw [(h.not hb).2]; exact Sta.refl _
theorem jH {P : Program} {ops : Array Oper} {sup : List Tch} {R : Nat → Rcd} (hR : ∀ (k : Nat) (o : Oper), ops[k]? = some o → du P ops (Region.before ops).toList sup k o (R k) (R (k + 1))) {k : Nat} {o : Oper} (ho : ops[k]? = some o) : (R k).st.next ≤ (R k).post.next ∧ (R (k + 1)).st.next = (R k).post.next := by
 have h := hR k o ho
 exact ⟨(staI hR ho).next, by rw [h.st]⟩
theorem mG {P : Program} {ops : Array Oper} {sup : List Tch} {R : Nat → Rcd} (hR : ∀ (k : Nat) (o : Oper), ops[k]? = some o → du P ops (Region.before ops).toList sup k o (R k) (R (k + 1))) {k : Nat} {o : Oper} (ho : ops[k]? = some o) {n : Nat} (hn : n ∈ (R k).post.log) : bN n (inner (Region.before ops).toList sup k (R k)).ban = false ∧ n < (R k).st.next := by
 rcases (staI hR ho).vis n hn with h | h
 ·cases h
 ·exact h
theorem nL {sup : List Tch} {k n : Nat} {before : List Nat} {rc : Rcd} (h : bN n (inner before sup k rc).ban = false) : bN n rc.st.ban = false := by
 cases hb : bN n rc.st.ban with
 | false => rfl
 | true =>
  have : bN n (inner before sup k rc).ban = true := (ek ..).2 (.inl ((dW ..).2 (.inl hb)))
  rw [h] at this
  cases this
theorem staStep {P : Program} {ops : Array Oper} {sup : List Tch} {R : Nat → Rcd} (hR : ∀ (k : Nat) (o : Oper), ops[k]? = some o → du P ops (Region.before ops).toList sup k o (R k) (R (k + 1))) {k : Nat} {o : Oper} (ho : ops[k]? = some o) : Sta (R k).st (R (k + 1)).st := by
 have hs := staI hR ho
 have h := hR k o ho
 rw [h.st]
 refine ⟨rfl, rfl, hs.next, fun n hn => List.mem_append_right _ hn, fun n h1 h2 h3 => ?_, fun hw => hs.wf hw, fun n hn => ?_⟩
 ·have hnl : n ∉ (R k).post.log := fun hm => h3 (List.mem_append_left _ (im.2 ⟨hm, h2⟩))
  exact hs.same n h1 h1 hnl
 ·rcases List.mem_append.1 hn with hm | hm
  ·obtain ⟨h4, h5⟩ := im.1 hm
   exact .inr ⟨nL (mG hR ho h4).1, h5⟩
  ·exact .inl hm
theorem oA {P : Program} {ops : Array Oper} {sup : List Tch} {R : Nat → Rcd} (hR : ∀ (k : Nat) (o : Oper), ops[k]? = some o → du P ops (Region.before ops).toList sup k o (R k) (R (k + 1))) : ∀ {k : Nat}, k ≤ ops.size → ∀ {j : Nat}, j ≤ k → Sta (R j).st (R k).st
 | 0, _, j, hj => by cases Nat.le_zero.1 hj; exact Sta.refl _
 | k + 1, hk, j, hj => by
  rcases Nat.eq_or_lt_of_le hj with rfl | hlt
  ·exact Sta.refl _
  ·exact (oA hR (by omega) (by omega)).trans (staStep hR (Array.getElem?_eq_getElem (show k < ops.size by omega)))
theorem wfAt {P : Program} {ops : Array Oper} {sup : List Tch} {R : Nat → Rcd} (hR : ∀ (k : Nat) (o : Oper), ops[k]? = some o → du P ops (Region.before ops).toList sup k o (R k) (R (k + 1))) (hwf : Wf (R 0).st) {k : Nat} (hk : k ≤ ops.size) : Wf (R k).st := hwf.sta (oA hR hk (Nat.zero_le _))
theorem fg {P : Program} {ops : Array Oper} {sup : List Tch} {R : Nat → Rcd} (hR : ∀ (k : Nat) (o : Oper), ops[k]? = some o → du P ops (Region.before ops).toList sup k o (R k) (R (k + 1))) {j k : Nat} (hj : j < k) (hk : k ≤ ops.size) : (R j).post.next ≤ (R k).st.next := by
 have := (jH hR (Array.getElem?_eq_getElem (show j < ops.size by omega))).2
 rw [← this]
 exact (oA hR hk (show j + 1 ≤ k from hj)).next
theorem accAt {P : Program} {ops : Array Oper} {sup : List Tch} {R : Nat → Rcd} (hR : ∀ (k : Nat) (o : Oper), ops[k]? = some o → du P ops (Region.before ops).toList sup k o (R k) (R (k + 1))) (hacc : (R 0).acc = []) : ∀ {k : Nat}, k ≤ ops.size → ∀ t, t ∈ (R k).acc ↔ ∃ j, j < k ∧ t = ⟨j, (R j).st.next, (R j).post.next, (R j).post.log⟩ ∧ ((R j).st.next ≠ (R j).post.next ∨ (R j).post.log ≠ [])
 | 0, _, t => by
  rw [hacc]
  constructor
  ·intro h; cases h
  ·rintro ⟨j, hj, _⟩; omega
 | k + 1, hk, t => by
  have h := hR k _ (Array.getElem?_eq_getElem (show k < ops.size by omega))
  rw [h.acc, yg, accAt hR hacc (show k ≤ ops.size by omega)]
  constructor
  ·rintro (⟨j, hj, h1⟩ | ⟨h1, h2⟩)
   ·exact ⟨j, by omega, h1⟩
   ·exact ⟨k, by omega, h1, h2⟩
  ·rintro ⟨j, hj, h1, h2⟩
   by_cases e : j = k
   ·subst e; exact .inr ⟨h1, h2⟩
   ·exact .inl ⟨j, by omega, h1, h2⟩
theorem uP {P : Program} {ops : Array Oper} {sup : List Tch} {R : Nat → Rcd} (hR : ∀ (k : Nat) (o : Oper), ops[k]? = some o → du P ops (Region.before ops).toList sup k o (R k) (R (k + 1))) (hacc : (R 0).acc = []) {j k : Nat} (hj : j < k) (hk : k ≤ ops.size) {n : Nat} (ht : Touch (R j) n) (ho : ordered (Region.before ops).toList j k = false) : bN n (inner (Region.before ops).toList sup k (R k)).ban = true := by
 refine (ek ..).2 (.inr ⟨⟨j, (R j).st.next, (R j).post.next, (R j).post.log⟩, (accAt hR hacc hk _).2 ⟨j, hj, rfl, ?_⟩, by show j ≠ k; omega, ho, ht⟩)
 rcases ht with h | h
 ·left; omega
 ·right; intro e; rw [e] at h; cases h
theorem wfI {P : Program} {ops : Array Oper} {sup : List Tch} {R : Nat → Rcd} (hR : ∀ (k : Nat) (o : Oper), ops[k]? = some o → du P ops (Region.before ops).toList sup k o (R k) (R (k + 1))) (hacc : (R 0).acc = []) (hwf : Wf (R 0).st) {k : Nat} {o : Oper} (ho : ops[k]? = some o) : Wf (inner (Region.before ops).toList sup k (R k)) := by
 have hk : k < ops.size := (Array.getElem?_eq_some_iff.1 ho).1
 refine ⟨(wfAt hR hwf (by omega)).none, fun n hn => ?_, Nat.le_refl _⟩
 rcases (ek ..).1 hn with h | ⟨t, h1, h2, h3, h4⟩
 ·rcases (dW ..).1 h with h | ⟨t, _, _, _, _, h5⟩
  ·exact (wfAt hR hwf (by omega)).ban n h
  ·exact h5
 ·obtain ⟨j, hj, rfl, _⟩ := (accAt hR hacc (by omega) t).1 h1
  have hm := fg hR hj (by omega)
  have hoj := Array.getElem?_eq_getElem (show j < ops.size by omega)
  have hns := jH hR hoj
  rcases h4 with h4 | h4
  ·show n < (R k).st.next
   simp only at h4
   omega
  ·have := (mG hR hoj h4).2
   show n < (R k).st.next
   omega
theorem sO {P : Program} {ops : Array Oper} {sup : List Tch} {R : Nat → Rcd} (hR : ∀ (k : Nat) (o : Oper), ops[k]? = some o → du P ops (Region.before ops).toList sup k o (R k) (R (k + 1))) (hacc : (R 0).acc = []) {j k : Nat} (hj : j < k) {o : Oper} (ho : ops[k]? = some o) {n : Nat} (h1 : Touch (R j) n) (h2 : Touch (R k) n) : ordered (Region.before ops).toList j k = true := by
 have hk : k < ops.size := (Array.getElem?_eq_some_iff.1 ho).1
 cases hb : ordered (Region.before ops).toList j k with
 | true => rfl
 | false =>
  exfalso
  have hban := uP hR hacc hj (by omega) h1 hb
  have hm := fg hR hj (show k ≤ ops.size by omega)
  have hoj := Array.getElem?_eq_getElem (show j < ops.size by omega)
  have hns := jH hR hoj
  rcases h2 with h2 | h2
  ·rcases h1 with h1 | h1
   ·omega
   ·have := (mG hR hoj h1).2; omega
  ·rw [(mG hR ho h2).1] at hban
   cases hban
noncomputable def eX (R : Nat → Rcd) (D : Nat → Bool) : Nat → eT
 | 0, n => (R 0).st.look n
 | k + 1, n => if D k = true ∧ Touch (R k) n then (R (k + 1)).st.look n else eX R D k n
theorem iQ {R : Nat → Rcd} {D : Nat → Bool} {n : Nat} : ∀ {N m : Nat}, m ≤ N → (∀ i, m ≤ i → i < N → D i = true → ¬ Touch (R i) n) → eX R D N n = eX R D m n
 | 0, m, hm, _ => by cases Nat.le_zero.1 hm; rfl
 | N + 1, m, hm, h => by
  rcases Nat.eq_or_lt_of_le hm with rfl | hlt
  ·rfl
  ·rw [eX, if_neg (fun q => h N (by omega) (by omega) q.1 q.2)]
   exact iQ (by omega) fun i h1 h2 => h i h1 (by omega)
theorem tX {R : Nat → Rcd} {D D' : Nat → Bool} {k : Nat} (hD : ∀ j, j ≠ k → D' j = D j) {n : Nat} (hn : ¬ Touch (R k) n) : ∀ N, eX R D' N n = eX R D N n
 | 0 => rfl
 | N + 1 => by
  rw [eX, eX, tX hD hn N]
  by_cases e : N = k
  ·subst e
   rw [if_neg (fun q => hn q.2), if_neg (fun q => hn q.2)]
  ·rw [hD N e]
structure zF (c : Ctx) (fr : Fr) (a : Act) (L : List Tmp) : Prop where
 get : ∀ t ∈ L, ∀ s, fr.get t = some s → ∃ v, a.tmps[t]? = some v ∧ Den c s v
theorem zF.eval {c : Ctx} {fr : Fr} {a : Act} {ops : Array Oper} {o : Oper} (h : zF c fr a (o.looksAt ops)) (x : Operand) (hx : x ∈ o.op.operands.toList) (s : SVal) (hs : evS fr x = some s) : Den c s (a.eval x) := by
 cases x with
 | tmp t =>
  obtain ⟨v, h1, h2⟩ := h.get t (List.mem_append_left _ (List.mem_filterMap.2 ⟨.tmp t, hx, rfl⟩)) s hs
  rw [show a.eval (.tmp t) = v by simp [Act.eval, Array.getD_eq_getD_getElem?, h1]]
  exact h2
 | const v => exact vz hs c
 | global g => cases hs
 | func f => cases hs; exact ⟨[], [], rfl, rfl, rfl⟩
theorem zF.want {c : Ctx} {fr : Fr} {a : Act} {ops : Array Oper} {o : Oper} (hf : zF c fr a (o.looksAt ops)) {b : Bool} (h : jt ops.toList fr o.guard = some b) : Region.wanted o (yielded ops a.tmps) = b := by
 unfold Region.wanted
 cases hg : o.guard with
 | none => rw [hg] at h; cases h; rfl
 | some p =>
  obtain ⟨j, want⟩ := p
  rw [hg] at h
  have h : bnd (ops.toList[j]?) (fun q => bnd q.dst fun d => bnd (fr.get d) fun v => fA want v) = some b := h
  rw [aU] at h
  obtain ⟨q, h1, h⟩ := h
  rw [aU] at h
  obtain ⟨d, h2, h⟩ := h
  rw [aU] at h
  obtain ⟨s, h3, h4⟩ := h
  have h1 : ops[j]? = some q := by simpa using h1
  obtain ⟨v, h5, h6⟩ := hf.get d (List.mem_append_right _ (by simp [hg, h1, h2])) s h3
  have := mO h4 h6
  simp only [yielded, h1, Option.bind_some, h2, h5]
  cases v <;> exact this
abbrev inD (listed : Array Bool) : Nat → Bool := fun k => listed.getD k false
structure jc (ops : Array Oper) (listed : Array Bool) : Prop where
 size : listed.size = ops.size
 dep : ∀ (j : Nat) (o : Oper), ops[j]? = some o → inD listed j = true → ∀ e ∈ o.after, Region.binds .any e = true → inD listed e.on = true
theorem jc.waits {ops : Array Oper} {listed : Array Bool} (h : jc ops listed) {k j : Nat} (hw : ka ops k j) : (∀ o, ops[k]? = some o → ∀ e ∈ o.after, Region.binds .any e = true → inD listed e.on = true) → inD listed j = true := by
 induction hw with
 | one h1 h2 h3 => exact fun hd => hd _ h1 _ h2 h3
 | more h1 h2 h3 _ ih => exact fun hd => ih fun o' ho' => h.dep _ o' ho' (hd _ h1 _ h2 h3)
theorem jc.of {ops : Array Oper} {listed : Array Bool} (h : jc ops listed) {k j : Nat} (hw : ka ops k j) (hk : inD listed k = true) : inD listed j = true :=
 h.waits hw fun o ho => h.dep k o ho hk
structure sF (ops : Array Oper) (listed : Array Bool) (k : Nat) (o : Oper) : Prop where
 op : ops[k]? = some o
 un : inD listed k = false
 deps : ∀ e ∈ o.after, Region.binds .any e = true → inD listed e.on = true
theorem wQ {ops : Array Oper} {R : Nat → Rcd} (hB : tq ops (R 0).fr.n) {k j : Nat} (h : ka ops k j) : j < k := by
 induction h with
 | one h1 h2 h3 => exact hB.down _ _ h1 _ h2 h3
 | more h1 h2 h3 _ ih => exact Nat.lt_trans ih (hB.down _ _ h1 _ h2 h3)
theorem tc {ops : Array Oper} {R : Nat → Rcd} (hB : tq ops (R 0).fr.n) {listed : Array Bool} (hc : jc ops listed) {k j : Nat} {o : Oper} (hr : sF ops listed k o) (hj : j < k) (ho : ordered (Region.before ops).toList j k = true) : inD listed j = true := by
 rcases lu ho with h | h
 ·exact hc.waits h fun o' ho' => by rw [hr.op] at ho'; cases ho'; exact hr.deps
 ·have := wQ hB h; omega
theorem oH {ops : Array Oper} {R : Nat → Rcd} (hB : tq ops (R 0).fr.n) {listed : Array Bool} (hc : jc ops listed) {k i : Nat} {o : Oper} (hr : sF ops listed k o) (hi : k < i) (hd : inD listed i = true) : ordered (Region.before ops).toList k i = false := by
 cases h : ordered (Region.before ops).toList k i with
 | false => rfl
 | true =>
  exfalso
  rcases lu h with h | h
  ·have := hc.of h hd
   rw [hr.un] at this
   cases this
  ·have := wQ hB h; omega
theorem uk {P : Program} {ops : Array Oper} {sup : List Tch} {R : Nat → Rcd} (hR : ∀ (k : Nat) (o : Oper), ops[k]? = some o → du P ops (Region.before ops).toList sup k o (R k) (R (k + 1))) {n : Nat} : ∀ {k : Nat}, k ≤ ops.size → ∀ {j : Nat}, j ≤ k → (∀ i, j ≤ i → i < k → ¬ Touch (R i) n) → Wf (R 0).st → (R k).st.look n = (R j).st.look n
 | 0, _, j, hj, _, _ => by cases Nat.le_zero.1 hj; rfl
 | k + 1, hk, j, hj, h, hwf => by
  rcases Nat.eq_or_lt_of_le hj with rfl | hlt
  ·rfl
  ·have ho := Array.getElem?_eq_getElem (show k < ops.size by omega)
   rw [← uk hR (show k ≤ ops.size by omega) (show j ≤ k by omega) (fun i h1 h2 => h i h1 (by omega)) hwf]
   have ht := h k (by omega) (by omega)
   have hs := staI hR ho
   have hw := wfAt hR hwf (show k ≤ ops.size by omega)
   have hst := (hR k _ ho).st
   have hheap : ba (R k).post.heap n = ba (R k).st.heap n := by
    by_cases hn : n < (R k).st.next
    ·exact hs.same n hn hn fun hm => ht (.inr hm)
    ·have hn' : (R k).post.next ≤ n := by
      rcases Nat.lt_or_ge n (R k).post.next with q | q
      ·exact absurd (.inl ⟨by omega, q⟩) ht
      ·exact q
     rw [hs.wf hw.none n hn', hw.none n (by omega)]
   rw [look_eq, look_eq, hst]
   simp only
   rw [hheap]
theorem lR {P : Program} {ops : Array Oper} {sup : List Tch} {R : Nat → Rcd} (hR : ∀ (k : Nat) (o : Oper), ops[k]? = some o → du P ops (Region.before ops).toList sup k o (R k) (R (k + 1))) (hwf : Wf (R 0).st) {D : Nat → Bool} {n : Nat} : ∀ {m : Nat}, m ≤ ops.size → (∀ j, j < m → Touch (R j) n → D j = true) → eX R D m n = (R m).st.look n
 | 0, _, _ => rfl
 | m + 1, hm, h => by
  rw [eX]
  by_cases ht : Touch (R m) n
  ·rw [if_pos ⟨h m (by omega) ht, ht⟩]
  ·rw [if_neg (fun q => ht q.2), lR hR hwf (show m ≤ ops.size by omega) fun j hj => h j (by omega)]
   have hno : ∀ i, m ≤ i → i < m + 1 → ¬ Touch (R i) n := fun i h1 h2 => by
    have e : i = m := by omega
    rw [e]
    exact ht
   exact (uk hR hm (show m ≤ m + 1 by omega) hno hwf).symm
theorem sees {P : Program} {ops : Array Oper} {sup : List Tch} {R : Nat → Rcd} (hR : ∀ (k : Nat) (o : Oper), ops[k]? = some o → du P ops (Region.before ops).toList sup k o (R k) (R (k + 1))) (hacc : (R 0).acc = []) (hwf : Wf (R 0).st) (hB : tq ops (R 0).fr.n) (hlate : fk (Region.before ops).toList sup (R ops.size).acc = true) {listed : Array Bool} (hc : jc ops listed) {k : Nat} {o : Oper} (hr : sF ops listed k o) {n : Nat} {ob : aV} (hn : (inner (Region.before ops).toList sup k (R k)).look n = some ob) :
  eX R (inD listed) ops.size n = some ob := by
 have hk : k < ops.size := (Array.getElem?_eq_some_iff.1 hr.op).1
 obtain ⟨h1, h2⟩ := cm hn
 have h1 : ba (R k).st.heap n = some ob := h1
 have hlk : (R k).st.look n = some ob := by rw [look_eq, nL h2]; exact h1
 have hw := wfAt hR hwf (show k ≤ ops.size by omega)
 have hlt : n < (R k).st.next := by
  rcases Nat.lt_or_ge n (R k).st.next with q | q
  ·exact q
  ·rw [hw.none n q] at h1; cases h1
 have hA : ∀ i, k ≤ i → i < ops.size → inD listed i = true → ¬ Touch (R i) n := by
  intro i hki hi hd ht
  have hne : i ≠ k := fun e => by subst e; rw [hr.un] at hd; cases hd
  have hord := oH hB hc hr (show k < i by omega) hd
  have hoi := Array.getElem?_eq_getElem hi
  have hm := fg hR (show k < i by omega) (show i ≤ ops.size by omega)
  have hns := jH hR hr.op
  rcases ht with ht | ht
  ·omega
  ·have hmem : (⟨i, (R i).st.next, (R i).post.next, (R i).post.log⟩ : Tch) ∈ (R ops.size).acc := (accAt hR hacc (Nat.le_refl _) _).2 ⟨i, hi, rfl, .inr fun e => by rw [e] at ht; cases ht⟩
   rcases gO hlate _ hmem n ht with h3 | ⟨s, h3, h4, h5⟩
   ·have := h3 k (by show k < i; omega)
    simp only at this
    rw [hord] at this
    cases this
   ·have h4 : s.j = i := h4
    have : bN n (inner (Region.before ops).toList sup k (R k)).ban = true := (ek ..).2 (.inl ((dW ..).2 (.inr ⟨s, h3, by omega, by rw [h4, vv]; exact hord, h5, hlt⟩)))
    have h2 : bN n (inner (Region.before ops).toList sup k (R k)).ban = false := h2
    rw [h2] at this
    cases this
 have hC : ∀ j, j < k → Touch (R j) n → inD listed j = true := by
  intro j hj ht
  cases hb : ordered (Region.before ops).toList j k with
  | true => exact tc hB hc hr hj hb
  | false =>
   have := uP hR hacc hj (by omega) ht hb
   have h2 : bN n (inner (Region.before ops).toList sup k (R k)).ban = false := h2
   rw [h2] at this
   cases this
 rw [iQ (m := k) (by omega) hA, lR hR hwf (by omega) hC, hlk]
theorem sees_own {P : Program} {ops : Array Oper} {sup : List Tch} {R : Nat → Rcd} (hR : ∀ (k : Nat) (o : Oper), ops[k]? = some o → du P ops (Region.before ops).toList sup k o (R k) (R (k + 1))) (hacc : (R 0).acc = []) (hwf : Wf (R 0).st) {k : Nat} {o : Oper} (ho : ops[k]? = some o) {n : Nat} (ht : Touch (R k) n) : (R (k + 1)).st.look n = (R k).post.look n := by
 have hs := staI hR ho
 have hb : bN n (inner (Region.before ops).toList sup k (R k)).ban = false := by
  rcases ht with h | h
  ·cases hb : bN n (inner (Region.before ops).toList sup k (R k)).ban with
   | false => rfl
   | true =>
    have : n < (R k).st.next := (wfI hR hacc hwf ho).ban n hb
    omega
  ·exact (mG hR ho h).1
 rw [look_eq, look_eq, (hR k o ho).st, hs.ban, hb]
 simp only
 rw [nL hb]
theorem look_own {P : Program} {ops : Array Oper} {sup : List Tch} {R : Nat → Rcd} (hR : ∀ (k : Nat) (o : Oper), ops[k]? = some o → du P ops (Region.before ops).toList sup k o (R k) (R (k + 1))) (hacc : (R 0).acc = []) (hB : tq ops (R 0).fr.n) {listed : Array Bool} (hc : jc ops listed) {k : Nat} {o : Oper} (hr : sF ops listed k o) {listed' : Array Bool} (hk' : inD listed' k = true) (hD : ∀ j, j ≠ k → inD listed' j = inD listed j) {n : Nat} (ht : Touch (R k) n) :
  eX R (inD listed') ops.size n = (R (k + 1)).st.look n := by
 have hk : k < ops.size := (Array.getElem?_eq_some_iff.1 hr.op).1
 have hA : ∀ i, k + 1 ≤ i → i < ops.size → inD listed' i = true → ¬ Touch (R i) n := by
  intro i hki hi hd ht'
  rw [hD i (by omega)] at hd
  have := sO hR hacc (show k < i by omega) (Array.getElem?_eq_getElem hi) ht ht'
  rw [oH hB hc hr (by omega) hd] at this
  cases this
 rw [iQ (m := k + 1) (by omega) hA, eX, if_pos ⟨hk', ht⟩]
structure DInv (D : List Deferred) (ops : Array Oper) (R : Nat → Rcd) (c0 : Ctx) (w0 : World) (listed : Array Bool) (c : Ctx) (a : Act) (w : World) : Prop where
 closed : jc ops listed
 rep : Rep c (eX R (inD listed) ops.size) w
 step : Step (R 0).st.next (R ops.size).st.next c0 (R 0).st.look w0 c (eX R (inD listed) ops.size) w
 free : ∀ j, j < ops.size → inD listed j = false → mc c (R j).st.next (R j).post.next
 tsize : a.tmps.size = (R 0).fr.n
 defers : a.defers = D
 pk : ∀ (t : Nat) (s : SVal), (∀ (j : Nat) (o : Oper), ops[j]? = some o → inD listed j = true → o.dst ≠ some t) → (R 0).fr.get t = some s → ∃ v, a.tmps[t]? = some v ∧ Den c s v
 ju : ∀ (j : Nat) (o : Oper) (d : Nat), ops[j]? = some o → inD listed j = true → o.dst = some d → ∃ v, a.tmps[d]? = some v ∧ Den c (R j).s v
theorem vN {P : Program} {ops : Array Oper} {sup : List Tch} {R : Nat → Rcd} (hR : ∀ (k : Nat) (o : Oper), ops[k]? = some o → du P ops (Region.before ops).toList sup k o (R k) (R (k + 1))) {t : Nat} {s : SVal} : ∀ {k : Nat}, k ≤ ops.size → (R k).fr.get t = some s → (∃ (j : Nat) (o : Oper), j < k ∧ ops[j]? = some o ∧ o.dst = some t ∧ s = (R j).s) ∨ ((∀ (j : Nat) (o : Oper), j < k → ops[j]? = some o → o.dst ≠ some t) ∧ (R 0).fr.get t = some s)
 | 0, _, h => .inr ⟨fun j o hj => by omega, h⟩
 | k + 1, hk, h => by
  have ho := Array.getElem?_eq_getElem (show k < ops.size by omega)
  have hp := (hR k _ ho).put
  cases hd : ops[k].dst with
  | none =>
   rw [hd] at hp
   rw [gb hp] at h
   rcases vN hR (show k ≤ ops.size by omega) h with ⟨j, o, h1, h2, h3, h4⟩ | ⟨h1, h2⟩
   ·exact .inl ⟨j, o, by omega, h2, h3, h4⟩
   ·refine .inr ⟨fun j o hj hjo => ?_, h2⟩
    by_cases e : j = k
    ·subst e; rw [ho] at hjo; cases hjo; rw [hd]; simp
    ·exact h1 j o (by omega) hjo
  | some d =>
   rw [hd] at hp
   obtain ⟨_, _, h3⟩ := dZ (fb hp)
   rw [h3] at h
   by_cases e : t = d
   ·subst e
    rw [if_pos rfl] at h
    exact .inl ⟨k, ops[k], by omega, ho, hd, (Option.some.inj h).symm⟩
   ·rw [if_neg e] at h
    rcases vN hR (show k ≤ ops.size by omega) h with ⟨j, o, h1, h2, h3, h4⟩ | ⟨h1, h2⟩
    ·exact .inl ⟨j, o, by omega, h2, h3, h4⟩
    ·refine .inr ⟨fun j o hj hjo => ?_, h2⟩
     by_cases e2 : j = k
     ·subst e2; rw [ho] at hjo; cases hjo; rw [hd]; intro q; cases q; exact e rfl
     ·exact h1 j o (by omega) hjo
theorem knows {D : List Deferred} {P : Program} {ops : Array Oper} {sup : List Tch} {R : Nat → Rcd} (hR : ∀ (k : Nat) (o : Oper), ops[k]? = some o → du P ops (Region.before ops).toList sup k o (R k) (R (k + 1))) (hB : tq ops (R 0).fr.n) {c0 c : Ctx} {w0 w : World} {listed : Array Bool} {a : Act} (hI : DInv D ops R c0 w0 listed c a w) {k : Nat} {o : Oper} (hr : sF ops listed k o) : zF c (R k).fr a (o.looksAt ops) := by
 have hk : k < ops.size := (Array.getElem?_eq_some_iff.1 hr.op).1
 refine ⟨fun t ht s hs => ?_⟩
 rcases vN hR (show k ≤ ops.size by omega) hs with ⟨j, o', h1, h2, h3, rfl⟩ | ⟨h1, h2⟩
 ·rcases hB.dep k o hr.op t ht j o' h2 h3 with ⟨_, e, he, heon, hb⟩ | ⟨q, _⟩
  ·exact hI.ju j o' t h2 (heon ▸ hr.deps e he hb) h3
  ·omega
 ·refine hI.pk t s (fun j o' hj hd hdst => ?_) h2
  rcases hB.dep k o hr.op t ht j o' hj hdst with ⟨hjk, _⟩ | ⟨_, e, he, heon, hb⟩
  ·exact h1 j o' hjk hj hdst
  ·have := hI.closed.dep j o' hj hd e he hb
   rw [heon, hr.un] at this
   cases this
theorem ur {D : List Deferred} {P : Program} {ops : Array Oper} {sup : List Tch} {R : Nat → Rcd} (hR : ∀ (k : Nat) (o : Oper), ops[k]? = some o → du P ops (Region.before ops).toList sup k o (R k) (R (k + 1))) (hacc : (R 0).acc = []) (hwf : Wf (R 0).st) (hB : tq ops (R 0).fr.n) (hlate : fk (Region.before ops).toList sup (R ops.size).acc = true) {c0 c c' : Ctx} {w0 w w' : World} {listed : Array Bool} {a : Act} {v : Value} (hI : DInv D ops R c0 w0 listed c a w) {k : Nat} {o : Oper} (hr : sF ops listed k o)
  (hg : Good (inner (Region.before ops).toList sup k (R k)) (R k).post (R k).s c w c' v w') : DInv D ops R c0 w0 (listed.setIfInBounds k true) c' (a.put o.dst v) w' := by
 have hk : k < ops.size := (Array.getElem?_eq_some_iff.1 hr.op).1
 have hkl : k < listed.size := by rw [hI.closed.size]; exact hk
 have hset : inD (listed.setIfInBounds k true) k = true := by simp [inD, hkl]
 have hne : ∀ j, j ≠ k → inD (listed.setIfInBounds k true) j = inD listed j := fun j hj => getD_set_ne false (Ne.symm hj)
 have hdone : ∀ j, inD (listed.setIfInBounds k true) j = true → j = k ∨ inD listed j = true := fun j hj => by
  by_cases e : j = k
  ·exact .inl e
  ·rw [hne j e] at hj; exact .inr hj
 have hs := staI hR hr.op
 have hns := jH hR hr.op
 have hw := wfI hR hacc hwf hr.op
 obtain ⟨h1, h2⟩ := frame_step (Touch (R k)) hI.rep (fun n ob hn => sees hR hacc hwf hB hlate hI.closed hr hn) hg.rep hg.step (H' := eX R (inD (listed.setIfInBounds k true)) ops.size)
  (fun n hn => by rw [look_own hR hacc hB hI.closed hr hset hne hn, sees_own hR hacc hwf hr.op hn]) (fun n hn => tX hne hn _)
  (fun n hn => by
   have hheap : ba (R k).post.heap n = ba (inner (Region.before ops).toList sup k (R k)).heap n := by
    by_cases hlt : n < (R k).st.next
    ·exact hs.same n hlt hlt fun hm => hn (.inr hm)
    ·have hn' : (R k).post.next ≤ n := by
      rcases Nat.lt_or_ge n (R k).post.next with q | q
      ·exact absurd (.inl ⟨by omega, q⟩) hn
      ·exact q
     rw [hs.wf hw.none n hn', hw.none n (by show (R k).st.next ≤ n; omega)]
   rw [look_eq, look_eq, hs.ban, hheap])
 have hlo : (R 0).st.next ≤ (inner (Region.before ops).toList sup k (R k)).next := (oA hR (show k ≤ ops.size by omega) (Nat.zero_le _)).next
 have hhi : (R k).post.next ≤ (R ops.size).st.next := fg hR hk (Nat.le_refl _)
 have hstep := hI.step.trans' (h2.wide hlo hhi)
 have hle := hg.step.le
 refine ⟨⟨by simp [hI.closed.size], fun j o' hj hd e he hb => ?_⟩, h1, hstep, fun j hj hd => ?_, by cases o.dst <;> simp [Act.put, hI.tsize], by cases o.dst <;> exact hI.defers, fun t s ht hs' => ?_, fun j o' d hj hd hdst => ?_⟩
 ·rcases hdone j hd with rfl | hd'
  ·rw [hr.op] at hj
   cases hj
   have := hr.deps e he hb
   by_cases q : e.on = j
   ·rw [q]; exact hset
   ·rw [hne _ q]; exact this
  ·have := hI.closed.dep j o' hj hd' e he hb
   by_cases q : e.on = k
   ·rw [q]; exact hset
   ·rw [hne _ q]; exact this
 ·have hjk : j ≠ k := fun e => by subst e; rw [hset] at hd; cases hd
  rw [hne j hjk] at hd
  intro n hn hn'
  refine hg.step.off n ?_ (hI.free j hj hd n hn hn')
  show n < (R k).st.next ∨ (R k).post.next ≤ n
  rcases Nat.lt_or_ge j k with q | q
  ·have := fg hR q (show k ≤ ops.size by omega); omega
  ·have := fg hR (show k < j by omega) (show j ≤ ops.size by omega); omega
 ·obtain ⟨v', h3, h4⟩ := hI.pk t s (fun j o' hj hd hdst => by
   refine ht j o' hj ?_ hdst
   by_cases e : j = k
   ·subst e; exact hset
   ·rw [hne j e]; exact hd) hs'
  refine ⟨v', ?_, Den.le hle _ _ h4⟩
  cases hdst : o.dst with
  | none => exact h3
  | some d =>
   have : d ≠ t := fun e => ht k o hr.op hset (by rw [hdst, e])
   simp [Act.put, Array.getElem?_setIfInBounds_ne this, h3]
 ·rcases hdone j hd with rfl | hd'
  ·rw [hr.op] at hj
   cases hj
   have hb := hB.bound j o hr.op d hdst
   exact ⟨v, by rw [hdst]; simp [Act.put, hI.tsize, hb], hg.val⟩
  ·obtain ⟨v', h3, h4⟩ := hI.ju j o' d hj hd' hdst
   refine ⟨v', ?_, Den.le hle _ _ h4⟩
   cases hdst2 : o.dst with
   | none => exact h3
   | some d2 =>
    have : d2 ≠ d := fun e => by
     have := hB.dist j o' hj k o hr.op (by rw [hdst]; simp) (by rw [hdst, hdst2, e])
     subst this
     rw [hr.un] at hd'
     cases hd'
    simp [Act.put, Array.getElem?_setIfInBounds_ne this, h3]
theorem Rep.mono {c : Ctx} {G H : eT} {w : World} (h : Rep c H w) (hs : ∀ n o, G n = some o → H n = some o) : Rep c G w :=
 ⟨fun k o hk => h.cW k o (hs k o hk), fun k j o o' l l' r hk hj => h.sep k j o o' l l' r (hs _ _ hk) (hs _ _ hj), h.fz⟩
theorem count_set (l : Array Bool) (i : Nat) (h : l.getD i true = false) : (l.setIfInBounds i true).toList.count false + 1 = l.toList.count false := by
 have hi : i < l.size := by
  rcases Nat.lt_or_ge i l.size with h' | h'
  ·exact h'
  ·simp [Array.getD, Nat.not_lt.2 h'] at h
 have hv : l[i] = false := by simpa [hi] using h
 rw [Array.toList_setIfInBounds, List.count_set (by simpa using hi)]
 have hm : 0 < l.toList.count false := List.count_pos_iff.2 (by rw [← hv]; simp)
 have h1 : (l.toList[i] == false) = true := by simp [hv]
 have h2 : (true == false) = false := rfl
 rw [h1, h2]
 simp only [if_true, Bool.false_eq_true, if_false]
 omega
theorem pO {l : Array Bool} {j : Nat} (hj : j < l.size) : l.getD j true = l.getD j false := by simp [hj]
theorem jK {l : Array Bool} {j : Nat} (h : l.getD j true = false) : j < l.size := by
 rcases Nat.lt_or_ge j l.size with h' | h'
 ·exact h'
 ·simp [Array.getD, Nat.not_lt.2 h'] at h
theorem dinv_op {D : List Deferred} {ro : Option Nat} {P : Program} {ops : Array Oper} {sup : List Tch} {R : Nat → Rcd} (hR : ∀ (k : Nat) (o : Oper), ops[k]? = some o → du P ops (Region.before ops).toList sup k o (R k) (R (k + 1))) (hacc : (R 0).acc = []) (hwf : Wf (R 0).st) (hB : tq ops (R 0).fr.n) (hlate : fk (Region.before ops).toList sup (R ops.size).acc = true) {c0 c : Ctx} {w0 w : World} {listed : Array Bool} {a : Act} (hI : DInv D ops R c0 w0 listed c a w) {k : Nat} {o : Oper} (hr : sF ops listed k o) {Q : Exit → Act → World → Prop} {K : Act → World → Prop}
  (hK : ∀ c' a' w', DInv D ops R c0 w0 (listed.setIfInBounds k true) c' a' w' → K a' w') : wpOpIn (gj ro) 0 P ops Q k K a w := by
 have hk : k < ops.size := (Array.getElem?_eq_some_iff.1 hr.op).1
 have h := hR k o hr.op
 have kn := knows hR hB hI hr
 have hrep : Rep c (inner (Region.before ops).toList sup k (R k)).look w := hI.rep.mono fun n ob hn => sees hR hacc hwf hB hlate hI.closed hr hn
 unfold wpOpIn
 rw [hr.op]
 simp only
 rw [kn.want h.want]
 cases hb : (R k).b with
 | false =>
  obtain ⟨h1, h2⟩ := h.not hb
  refine ⟨fun _ _ => trivial, hK c _ _ (ur hR hacc hwf hB hlate hI hr ?_)⟩
  rw [h1, h2]
  exact ⟨⟨[], rfl, rfl⟩, hrep, Step.refl _ _ _ _⟩
 | true =>
  exact (h.run hb).wp ro ((h.run hb).ok hrep (wfI hR hacc hwf hr.op) (hI.free k hk hr.un) kn.eval a K Q fun c' v w' hg => hK c' _ _ (ur hR hacc hwf hB hlate hI hr hg))
theorem dinv_wp {D : List Deferred} {ro : Option Nat} {P : Program} {ops : Array Oper} {sup : List Tch} {R : Nat → Rcd} (hR : ∀ (k : Nat) (o : Oper), ops[k]? = some o → du P ops (Region.before ops).toList sup k o (R k) (R (k + 1))) (hacc : (R 0).acc = []) (hwf : Wf (R 0).st) (hB : tq ops (R 0).fr.n) (hlate : fk (Region.before ops).toList sup (R ops.size).acc = true) {c0 : Ctx} {w0 : World} {Q : Exit → Act → World → Prop}
  (hQ : ∀ c' a' w', jb D c' (R ops.size).fr a' → Rep c' (R ops.size).st.look w' → Step (R 0).st.next (R ops.size).st.next c0 (R 0).st.look w0 c' (R ops.size).st.look w' → Q .normal a' w') :
  ∀ (fuel : Nat) (listed : Array Bool) (c : Ctx) (a : Act) (w : World), listed.toList.count false = fuel → DInv D ops R c0 w0 listed c a w → wpAnyIn (gj ro) 0 P .any ops Q fuel listed a w := by
 have done : ∀ (listed : Array Bool) (c : Ctx) (a : Act) (w : World), DInv D ops R c0 w0 listed c a w → (∀ k, k < ops.size → inD listed k = true) → Q .normal a w := by
  intro listed c a w hI hall
  have hlk : eX R (inD listed) ops.size = (R ops.size).st.look := funext fun n => lR hR hwf (Nat.le_refl _) fun j hj _ => hall j hj
  have hrep := hI.rep
  have hst := hI.step
  rw [hlk] at hrep hst
  have frn : ∀ k, k ≤ ops.size → (R k).fr.n = (R 0).fr.n := by
   intro k
   induction k with
   | zero => intro _; rfl
   | succ k ih =>
    intro hk
    have hp := (hR k _ (Array.getElem?_eq_getElem (show k < ops.size by omega))).put
    rw [← ih (by omega)]
    cases hd : ops[k].dst with
    | none => rw [hd] at hp; rw [gb hp]
    | some d => rw [hd] at hp; exact (dZ (fb hp)).2.1
  refine hQ c a w ⟨by rw [hI.tsize, frn _ (Nat.le_refl _)], fun t s hs => ?_, hI.defers⟩ hrep hst
  rcases vN hR (Nat.le_refl _) hs with ⟨j, o, h1, h2, h3, rfl⟩ | ⟨h1, h2⟩
  ·exact hI.ju j o t h2 (hall j h1) h3
  ·exact hI.pk t s (fun j o hj _ => h1 j o (Array.getElem?_eq_some_iff.1 hj).1 hj) h2
 intro fuel
 induction fuel with
 | zero =>
  intro listed c a w hc hI
  have hall : ∀ k, k < ops.size → inD listed k = true := by
   intro k hk
   have hks : k < listed.size := by rw [hI.closed.size]; exact hk
   cases hv : listed.getD k false with
   | true => exact hv
   | false =>
    have := count_set listed k (by rw [pO hks]; exact hv)
    omega
  refine ⟨List.eq_nil_iff_forall_not_mem.2 fun i hi => ?_, done listed c a w hI hall⟩
  have h1 := (mem_ready.1 hi).1
  have h2 := jK h1
  have := hall i (by rw [← hI.closed.size]; exact h2)
  rw [inD, ← pO h2, h1] at this
  cases this
 | succ fuel ih =>
  intro listed c a w hc hI
  refine ⟨fun hr => ?_, fun i hi => ?_⟩
  ·refine done listed c a w hI fun k => ?_
   induction k using Nat.strongRecOn with
   | _ k ihk =>
    intro hk
    cases hv : listed.getD k false with
    | true => exact hv
    | false =>
     exfalso
     have ho := Array.getElem?_eq_getElem hk
     have hks : k < listed.size := by rw [hI.closed.size]; exact hk
     have : k ∈ Region.ready .any ops listed := mem_ready.2 ⟨by rw [pO hks]; exact hv, _, ho, fun e he hb => by
      have hlt := hB.down k _ ho e he hb
      exact ihk e.on hlt (by omega)⟩
     rw [hr] at this
     cases this
  ·obtain ⟨hun, o, ho, hdeps⟩ := mem_ready.1 hi
   have hin : i < listed.size := jK hun
   refine dinv_op hR hacc hwf hB hlate hI ⟨ho, by rw [inD, ← pO hin]; exact hun, hdeps⟩ fun c' a' w' hI' => ?_
   refine ih _ c' a' w' ?_ hI'
   have := count_set listed i hun
   omega
def DrawSem (P : Program) (ops : Array Oper) (fr : Fr) (st : St) (fr' : Fr) (st' : St) : Prop :=
 Sta st st' ∧ fr'.n = fr.n ∧ ∀ {ro : Option Nat} {D : List Deferred} {c : Ctx} {w : World} {a : Act} (id : Nat), Rep c st.look w → Wf st → mc c st.next st'.next → jb D c fr a → ∀ {Q : Exit → Act → World → Prop},
  (∀ c' a' w', jb D c' fr' a' → Rep c' st'.look w' → Step st.next st'.next c st.look w c' st'.look w' → Q .normal a' w') → (Code.region id ops true).wpIn (gj ro) 0 P Q a w
theorem draw_run {P : Program} (hmix : P.follows .mixedOrders = true) {ops : Array Oper} {sup : List Tch} {fr fr' : Fr} {st st' : St} {acc' : List Tch} (h : eU P ops (Region.before ops).toList sup ops.toList 0 fr st [] fr' st' acc') (hrel : relB ops.toList fr.n = true)
  (hl : fk (Region.before ops).toList sup acc' = true) : DrawSem P ops fr st fr' st' := by
 obtain ⟨R, h1, h2, h3, ⟨h4, h6, h7⟩, h5⟩ := trace_of h
 have hR : ∀ (k : Nat) (o : Oper), ops[k]? = some o → du P ops (Region.before ops).toList sup k o (R k) (R (k + 1)) := fun k o hk => by
  have := h5 k o (by simpa using hk)
  rw [Nat.zero_add] at this
  exact this
 have e : 0 + ops.toList.length = ops.size := by simp
 rw [e] at h4 h6 h7
 subst h1 h2 h4 h6 h7
 have frn : ∀ k, k ≤ ops.size → (R k).fr.n = (R 0).fr.n := by
  intro k
  induction k with
  | zero => intro _; rfl
  | succ k ih =>
   intro hk
   have hp := (hR k _ (Array.getElem?_eq_getElem (show k < ops.size by omega))).put
   rw [← ih (by omega)]
   cases hd : ops[k].dst with
   | none => rw [hd] at hp; rw [gb hp]
   | some d => rw [hd] at hp; exact (dZ (fb hp)).2.1
 refine ⟨oA hR (Nat.le_refl _) (Nat.zero_le _), frn _ (Nat.le_refl _), fun {ro D c w a} id hr hwf hf hfr Q hQ => ?_⟩
 have hB := relB_spec hrel
 have none : ∀ k, inD (Array.replicate ops.size false) k = true → False := fun k hk => by
  unfold inD at hk
  rw [Array.getD_eq_getD_getElem?, Array.getElem?_replicate] at hk
  split at hk <;> cases hk
 have hlk : eX R (inD (Array.replicate ops.size false)) ops.size = (R 0).st.look := funext fun n => by
  rw [iQ (m := 0) (Nat.zero_le _) fun i _ _ hd => (none i hd).elim]
  rfl
 have hr' : Rep c (R 0).st.look { w with drawn := w.drawn + 1 } := hr.draw _
 refine wpIn_region_any hmix (dinv_wp hR h3 hwf hB hl (c0 := c) (w0 := { w with drawn := w.drawn + 1 }) (fun c' a' w' k1 k2 k3 => ?_) ops.size _ c a _ (by simp) ⟨⟨by simp, fun j o hj hd => (none j hd).elim⟩, by rw [hlk]; exact hr', by
  rw [hlk]
  exact (Step.refl (R 0).st.next c _ _).wide (Nat.le_refl _) (oA hR (Nat.le_refl _) (Nat.zero_le _)).next, fun j hj _ => ?_, hfr.size, hfr.defers, fun t s _ hs => hfr.get t s hs, fun j o d hj hd => (none j hd).elim⟩)
 ·exact hQ c' a' w' k1 k2 (((Step.drawn (R 0).st.next c _ w _).wide (Nat.le_refl _) (oA hR (Nat.le_refl _) (Nat.zero_le _)).next).trans' k3)
 ·exact hf.mono (oA hR (show j ≤ ops.size by omega) (Nat.zero_le _)).next (fg hR hj (Nat.le_refl _))
def DrawW (P : Program) (ops : Array Oper) (before : List Nat) (sup : List Tch) (l : List Oper) (k : Nat) (fr : Fr) (st : St) (acc : List Tch) (Φ : Fr → St → List Tch → Prop) : Prop := ∃ fr' st' acc', eU P ops before sup l k fr st acc fr' st' acc' ∧ Φ fr' st' acc'
section
variable {P : Program} {ops : Array Oper} {before : List Nat} {sup : List Tch} {l : List Oper} {o : Oper} {k : Nat} {fr fr1 : Fr} {st st1 : St} {acc : List Tch} {s : SVal} {Φ : Fr → St → List Tch → Prop}
end
inductive Ex where
 | normal
 | exit (id : Nat)
 | ret
def u6 : Ex → Exit
 | .normal => .normal
 | .exit id => .exit id
 | .ret => .ret
def nR (b : Nat) : Deferred := { target := .collected b, args := #[] }
def Mks (B : Nat) (D : List Deferred) (w : World) : Prop := ∃ bs : List Nat, D = bs.map nR ∧ bs.Nodup ∧ ∀ b ∈ bs, B ≤ b ∧ w.heap[b]? = some (.deferred (some []))
theorem Mks.nil (B : Nat) (w : World) : Mks B [] w := ⟨[], rfl, List.nodup_nil, fun b hb => (by cases hb)⟩
theorem oM {c : Ctx} {o : aV} {l : Loc} {w : World} (h : dG c o l w) {b : Nat} (hb : fX l = some b) : ∃ x, w.heap[b]? = some x ∧ ∀ y, x ≠ .deferred y := by
 cases o with
 | cells cs => cases l with
  | row => exact h.elim
  | box b => cases hb; obtain ⟨arr, e, h1, _⟩ := h; exact ⟨_, h1, fun y h => by cases h⟩
 | still cs => cases l with
  | row => exact h.elim
  | box b => cases hb; obtain ⟨arr, e, h1, _⟩ := h; exact ⟨_, h1, fun y h => by cases h⟩
 | row m rows s froz => cases l with
  | box b => exact h.elim
  | row ob st sz u => cases hb; obtain ⟨_, _, arr, e, cap, h1⟩ := h; exact ⟨_, h1.cells, fun y h => by cases h⟩
 | map es => cases l with
  | row => exact h.elim
  | box b => cases hb; obtain ⟨ents, clock, h1, _⟩ := h; exact ⟨_, h1, fun y h => by cases h⟩
 | loop r => cases l with
  | row => exact h.elim
  | box b => cases hb; obtain ⟨x, h1, _⟩ := h; exact ⟨_, h1, fun y h => by cases h⟩
 | jl g cs => cases l with
  | box => exact h.elim
  | row ob st sz u => obtain ⟨h0, _, arr, e, f, _, h1, _⟩ := h; subst h0; cases hb; exact ⟨_, h1, fun y h => by cases h⟩
theorem yc {c : Ctx} {H : eT} {w : World} (hr : Rep c H w) {b : Nat} {x : Option (List Deferred)} (h : w.heap[b]? = some (.deferred x)) : ¬ eD c H b := by
 rintro ⟨k, o, l, h1, h2, h3⟩
 obtain ⟨l', h5, h6⟩ := hr.cW k o h1
 rw [h2] at h5
 cases h5
 obtain ⟨y, h7, h8⟩ := oM h6 h3
 rw [h] at h7
 cases h7
 exact h8 x rfl
theorem Mks.kept {B : Nat} {D : List Deferred} {w w' : World} (h : Mks B D w) (hk : ∀ (b : Nat) (x : Option (List Deferred)), w.heap[b]? = some (.deferred x) → w'.heap[b]? = w.heap[b]?) : Mks B D w' :=
 let ⟨bs, h1, h2, h3⟩ := h
 ⟨bs, h1, h2, fun b hb => ⟨(h3 b hb).1, (hk b _ (h3 b hb).2).trans (h3 b hb).2⟩⟩
structure dr (lo : Nat) (c : Ctx) (H : eT) (w : World) (c' : Ctx) (H' : eT) (w' : World) : Prop where
 le : ∀ k l, k < lo → c.ρ k = some l → ∃ l', c'.ρ k = some l' ∧ cS l l'
 fz : ∀ b i v, c.fz b i = some v → c'.fz b i = some v
 off : ∀ k, k < lo → c.ρ k = none → c'.ρ k = none
 hid : ∀ k l, k < lo → H k = none → c.ρ k = some l → H' k = none ∧ c'.ρ k = some l
 os : w'.os = w.os
 tape : w'.tape = w.tape
 output : w'.output = w.output
 size : w.heap.size ≤ w'.heap.size
 kept : ∀ r, r < w.heap.size → ¬ eD c H r → w'.heap[r]? = w.heap[r]?
 owns : ∀ r, eD c' H' r → eD c H r ∨ w.heap.size ≤ r
 nfz : ∀ b i v, c'.fz b i = some v → c.fz b i = some v ∨ eD c H b ∨ w.heap.size ≤ b
theorem dr.refl (lo : Nat) (c : Ctx) (H : eT) (w : World) : dr lo c H w c H w :=
 ⟨fun _ l _ h => ⟨l, h, cS.refl l⟩, fun _ _ _ h => h, fun _ _ h => h, fun _ _ _ h h' => ⟨h, h'⟩, rfl, rfl, rfl, Nat.le_refl _, fun _ _ _ => rfl, fun _ h => .inl h, fun _ _ _ h => .inl h⟩
theorem dr.trans {lo : Nat} {c c1 c2 : Ctx} {H H1 H2 : eT} {w w1 w2 : World} (h : dr lo c H w c1 H1 w1) (k : dr lo c1 H1 w1 c2 H2 w2) : dr lo c H w c2 H2 w2 where
 le := fun n l hn e => let ⟨l1, h1, h2⟩ := h.le n l hn e; let ⟨l2, h3, h4⟩ := k.le n l1 hn h1; ⟨l2, h3, h2.trans h4⟩
 fz := fun b i v e => k.fz b i v (h.fz b i v e)
 off := fun n hn e => k.off n hn (h.off n hn e)
 hid := fun n l hn e e' => let ⟨h1, h2⟩ := h.hid n l hn e e'; k.hid n l hn h1 h2
 os := k.os.trans h.os
 tape := k.tape.trans h.tape
 output := k.output.trans h.output
 size := Nat.le_trans h.size k.size
 kept := fun r hr hn => (k.kept r (Nat.lt_of_lt_of_le hr h.size) fun ho => (h.owns r ho).elim hn (fun h' => by omega)).trans (h.kept r hr hn)
 owns := fun r ho => (k.owns r ho).elim (h.owns r) (fun h' => .inr (Nat.le_trans h.size h'))
 nfz := fun b i v e => by
  rcases k.nfz b i v e with h1 | h1 | h1
  ·exact h.nfz b i v h1
  ·exact .inr (h.owns b h1)
  ·exact .inr (.inr (Nat.le_trans h.size h1))
theorem Step.c {lo a b : Nat} {c c' : Ctx} {H H' : eT} {w w' : World} (h : Step a b c H w c' H' w') (hlo : lo ≤ a) : dr lo c H w c' H' w' :=
 ⟨fun k l _ e => h.le.ρ k l e, h.le.fz, fun k hk e => h.off k (by omega) e, fun k l _ e e' => h.hid k l e e', h.os, h.tape, h.output, h.size, h.kept, h.owns, h.nfz⟩
theorem Mks.step {B : Nat} {D : List Deferred} {lo : Nat} {c c' : Ctx} {H H' : eT} {w w' : World} (h : Mks B D w) (hr : Rep c H w) (hs : dr lo c H w c' H' w') : Mks B D w' :=
 h.kept fun b _ hb => hs.kept b (Array.getElem?_eq_some_iff.1 hb).1 (yc hr hb)
structure ou (lo : Nat) (st st' : St) : Prop where
 ban : st'.ban = st.ban
 mark : st'.mark = st.mark
 log : ∀ n ∈ st.log, n ∈ st'.log
 same : ∀ k, k < lo → k < st.mark → k ∉ st'.log → ba st'.heap k = ba st.heap k
 vis : ∀ n ∈ st'.log, n ∈ st.log ∨ (bN n st.ban = false ∧ n < st.mark)
theorem ou.refl (lo : Nat) (st : St) : ou lo st st := ⟨rfl, rfl, fun _ h => h, fun _ _ _ _ => rfl, fun _ h => .inl h⟩
theorem ou.trans {lo : Nat} {a b c : St} (h : ou lo a b) (k : ou lo b c) : ou lo a c :=
 ⟨k.ban.trans h.ban, k.mark.trans h.mark, fun n hn => k.log n (h.log n hn), fun n h1 h2 h3 => (k.same n h1 (h.mark ▸ h2) h3).trans (h.same n h1 h2 fun e => h3 (k.log n e)),
  fun n hn => (k.vis n hn).elim (h.vis n) (fun hb => .inr ⟨h.ban ▸ hb.1, h.mark ▸ hb.2⟩)⟩
theorem Sta.c {lo : Nat} {st st' : St} (h : Sta st st') (hlo : lo ≤ st.next) : ou lo st st' := ⟨h.ban, h.mark, h.log, fun k h1 h2 h3 => h.same k (by omega) h2 h3, h.vis⟩
structure Ent (lo : Nat) (D : List Deferred) (B : Nat) (c : Ctx) (fr : Fr) (st : St) (a : Act) (w : World) : Prop where
 rep : Rep c st.look w
 wf : Wf st
 dom : ∀ k, st.next ≤ k → c.ρ k = none
 fr : jb D c fr a
 mks : Mks B D w
 base : B ≤ w.heap.size
 low : lo ≤ st.next
 mark : st.mark ≤ lo
def kh (ro : Option Nat) (P : Program) (c : Code) (Q : Exit → Act → World → Prop) (a : Act) (w : World) : Prop :=
 ∀ (b : Frame) (k : List Item) (cs : List Frame), b.roundOf = (gj ro).round → (gj ro).fn b.fn → (gj ro).room (cs.length + 1 + 0) →
  ∃ e a' w', Q e a' w' ∧ ArrivesIn (Machine.fenced P (gj ro)) P (lone (b.atR a (.code c :: .inLoop c :: k)) cs w) b k cs e a' w'
theorem kh.wp {ro : Option Nat} {P : Program} {c : Code} {Q : Exit → Act → World → Prop} {a : Act} {w : World} (h : kh ro P c Q a w) : (Code.loop c).wpIn (gj ro) 0 P Q a w := fun b k cs hro hb hr =>
 let ⟨e, a', w', hq, harr⟩ := h b k cs hro hb hr
 ⟨e, a', w', hq, .of_steps (.one (fenced_calm hb hr rfl) stepR_loop) harr⟩
theorem kh.turn {ro : Option Nat} {P : Program} {c : Code} {Q : Exit → Act → World → Prop} {a : Act} {w : World} (h : c.wpIn (gj ro) 0 P (Exit.then (kh ro P c Q) Q) a w) : kh ro P c Q a w := by
 intro b k cs hro hb hr
 obtain ⟨e, a₁, w₁, hq, harr⟩ := h b (.inLoop c :: k) cs hro hb hr
 cases e with
 | normal =>
  obtain ⟨e₂, a₂, w₂, hq₂, harr₂⟩ := hq b k cs hro hb hr
  exact ⟨e₂, a₂, w₂, hq₂, .of_steps (StepsIn.trans harr (.one (fenced_calm hb hr rfl) stepR_inLoop)) harr₂⟩
 | exit id => exact ⟨_, a₁, w₁, hq, .pass (x := .inLoop c) rfl (fun _ _ => .inl (by simp)) harr⟩
 | goto l => exact ⟨_, a₁, w₁, hq, .pass (x := .inLoop c) rfl (fun _ _ => .inl (by simp)) harr⟩
 | ret => exact ⟨_, a₁, w₁, hq, .pass (x := .inLoop c) rfl (fun _ _ => .inl (by simp)) harr⟩
 | panic ch => exact ⟨_, a₁, w₁, hq, .pass (x := .inLoop c) rfl (fun _ _ => .inl (by simp)) harr⟩
 | outgrown => exact ⟨_, a₁, w₁, hq, .pass (x := .inLoop c) rfl (fun _ _ => .inl (by simp)) harr⟩
section
variable {P : Program} {F : Fence} {n : Nat} {b : Frame} {a : Act} {k : List Item} {cs : List Frame} {w : World} {Q : Exit → Act → World → Prop}
theorem et {c : Code} : step P (lone (b.atR a (.code (.scope c) :: k)) cs w) = .next (lone (b.atR a (.code c :: .inScope c :: k)) cs w) :=
 step_lone_go (by simp [stepG, stepG.exec, Frame.atR])
theorem sQ {c : Code} : step P (lone (b.atR a (.inScope c :: k)) cs w) = .next (lone (b.atR a k) cs w) :=
 step_lone_go (by simp [stepG, stepG.exec, Frame.atR])
theorem zR {c : Code} (h : c.wpIn F n P (Exit.noGoto Q) a w) : (Code.scope c).wpIn F n P Q a w := by
 intro b k cs hro hb hr
 have h0 : (lone (b.atR a (.code (.scope c) :: k)) cs w).fenced P F := fenced_calm hb hr rfl
 obtain ⟨e, a₁, w₁, hq, harr⟩ := h b (.inScope c :: k) cs hro hb hr
 cases e with
 | normal => exact ⟨.normal, a₁, w₁, hq, .head h0 et (StepsIn.trans harr (.one (fenced_calm hb hr rfl) sQ))⟩
 | exit id =>
  exact ⟨.exit id, a₁, w₁, hq, fun k' hk => .head h0 et (harr.1 k' (by simp [exitTo, hk])), fun hr' hk =>
   let ⟨k₁, h1, h2⟩ := harr.2 hr' (by simp [exitTo, hk])
   ⟨k₁, h1, .head h0 et h2⟩⟩
 | goto l => exact hq.elim
 | ret => exact ⟨_, a₁, w₁, hq, .of_steps (.one h0 et) harr⟩
 | panic ch => exact ⟨_, a₁, w₁, hq, .of_steps (.one h0 et) harr⟩
 | outgrown => exact ⟨_, a₁, w₁, hq, .of_steps (.one h0 et) harr⟩
end
def WP (ro : Option Nat) (P : Program) (c : Code) (Q : Exit → Act → World → Prop) (a : Act) (w : World) : Prop :=
 match c with
 | .loop c => kh ro P c Q a w
 | c => c.wpIn (gj ro) 0 P Q a w
theorem WP.wp {ro : Option Nat} {P : Program} {c : Code} {Q : Exit → Act → World → Prop} {a : Act} {w : World} (h : WP ro P c Q a w) : c.wpIn (gj ro) 0 P Q a w := by
 cases c with
 | loop c => exact kh.wp h
 | _ => exact h
def Fin (lo B : Nat) (c : Ctx) (st : St) (w : World) (n : Nat) (Φ : Ex → Fr → St → Prop) (Q : Exit → Act → World → Prop) : Prop :=
 ∀ x fr' st' D' c' a' w', Φ x fr' st' → Ent lo D' B c' fr' st' a' w' → dr lo c st.look w c' st'.look w' → ou lo st st' → fr'.n = n → Q (u6 x) a' w'
def W (P : Program) (lo : Nat) (z : Code) (fr : Fr) (st : St) (Φ : Ex → Fr → St → Prop) : Prop :=
 ∀ {ro : Option Nat} {B : Nat} {D : List Deferred} {c : Ctx} {w : World} {a : Act}, Ent lo D B c fr st a w → (ro = none ∨ gL z = true) → ∀ {Q : Exit → Act → World → Prop}, Fin lo B c st w fr.n Φ Q → WP ro P z Q a w
theorem Fin.trans {lo B n n2 : Nat} {c c2 : Ctx} {st st2 : St} {w w2 : World} {Φ : Ex → Fr → St → Prop} {Q : Exit → Act → World → Prop} (h : Fin lo B c st w n Φ Q) (hs : dr lo c st.look w c2 st2.look w2) (ht : ou lo st st2) (hn : n2 = n) : Fin lo B c2 st2 w2 n2 Φ Q :=
 fun x fr' st' D' c' a' w' h1 h2 h3 h4 h5 => h x fr' st' D' c' a' w' h1 h2 (hs.trans h3) (ht.trans h4) (h5.trans hn)
theorem Fin.mono {lo B n : Nat} {c : Ctx} {st : St} {w : World} {Φ Ψ : Ex → Fr → St → Prop} {Q R : Exit → Act → World → Prop} (h : Fin lo B c st w n Φ Q) (hw : ∀ x fr' st', Ψ x fr' st' → Φ x fr' st') (hq : ∀ x a w, Q (u6 x) a w → R (u6 x) a w) : Fin lo B c st w n Ψ R :=
 fun x fr' st' D' c' a' w' h1 h2 h3 h4 h5 => hq _ _ _ (h x fr' st' D' c' a' w' (hw _ _ _ h1) h2 h3 h4 h5)
theorem mh {a b : Bool} (h : @Bool.rec (fun _ => Bool) false b a = true) : a = true ∧ b = true := by
 cases a with
 | false => cases h
 | true => exact ⟨rfl, h⟩
section
variable {P : Program} {lo : Nat} {fr : Fr} {st : St} {Φ Ψ : Ex → Fr → St → Prop}
theorem W.mono {z : Code} (h : W P lo z fr st Ψ) (hw : ∀ x fr' st', Ψ x fr' st' → Φ x fr' st') : W P lo z fr st Φ := fun he hr _ hq => h he hr (hq.mono hw fun _ _ _ h => h)
theorem Fin.here {B n : Nat} {c : Ctx} {w : World} {Q : Exit → Act → World → Prop} {D : List Deferred} {a : Act} {x : Ex} (hq : Fin lo B c st w n Φ Q) (he : Ent lo D B c fr st a w) (hn : fr.n = n) (h : Φ x fr st) : Q (u6 x) a w := hq x fr st D c a w h he (dr.refl _ _ _ _) (ou.refl _ _) hn
theorem W.skip (h : Φ .normal fr st) : W P lo .skip fr st Φ := fun he _ _ hq => wpIn_skip (hq.here he rfl h)
theorem W.label {l : Nat} (h : Φ .normal fr st) : W P lo (.label l) fr st Φ := fun he _ _ hq => wpIn_label (hq.here he rfl h)
theorem W.exit {id : Nat} (h : Φ (.exit id) fr st) : W P lo (.exit id) fr st Φ := fun he _ _ hq => wpIn_exit (hq.here he rfl h)
theorem W.ret (h : Φ .ret fr st) : W P lo .ret fr st Φ := fun he _ _ hq => wpIn_ret (hq.here he rfl h)
theorem W.ops {id : Nat} {ops : Array Oper} (h : sI P ops ops.toList fr st (Φ .normal)) : W P lo (.region id ops false) fr st Φ := by
 intro ro B D c w a he _ Q hq
 obtain ⟨fr', st', ⟨h1, h2, h3⟩, h4⟩ := h
 refine wpIn_region_list (h3 he.rep he.wf (fun k hk _ => he.dom k hk) he.fr fun c' a' w' c1 c2 c3 => ?_)
 have hs : dr lo c st.look w c' st'.look w' := c3.c he.low
 refine hq .normal fr' st' D c' a' w' h4 ⟨c2, he.wf.sta h1, fun k hk => c3.off k (.inr hk) (he.dom k (Nat.le_trans h1.next hk)), c1, he.mks.step he.rep hs, Nat.le_trans he.base hs.size, Nat.le_trans he.low h1.next, by rw [h1.mark]; exact he.mark⟩ hs (h1.c he.low) h2
theorem W.draw' {id : Nat} {ops : Array Oper} (hmix : P.follows .mixedOrders = true) (sup : List Tch) (hrel : relB ops.toList fr.n = true) (h : DrawW P ops (Region.before ops).toList sup ops.toList 0 fr st [] fun fr' st' acc => fk (Region.before ops).toList sup acc = true ∧ Φ .normal fr' st') : W P lo (.region id ops true) fr st Φ := by
 intro ro B D c w a he _ Q hq
 obtain ⟨fr', st', acc', h0, hl, h4⟩ := h
 obtain ⟨h1, h2, h3⟩ := draw_run hmix h0 hrel hl
 refine h3 id he.rep he.wf (fun k hk _ => he.dom k hk) he.fr fun c' a' w' c1 c2 c3 => ?_
 have hs : dr lo c st.look w c' st'.look w' := c3.c he.low
 refine hq .normal fr' st' D c' a' w' h4 ⟨c2, he.wf.sta h1, fun k hk => c3.off k (.inr hk) (he.dom k (Nat.le_trans h1.next hk)), c1, he.mks.step he.rep hs, Nat.le_trans he.base hs.size, Nat.le_trans he.low h1.next, by rw [h1.mark]; exact he.mark⟩ hs (h1.c he.low) h2
def Then (P : Program) (lo : Nat) (y : Code) (Φ : Ex → Fr → St → Prop) : Ex → Fr → St → Prop
 | .normal, fr, st => W P lo y fr st Φ
 | x, fr, st => Φ x fr st
theorem w7 {y : Code} {ro : Option Nat} {B : Nat} {c : Ctx} {w : World} {Q : Exit → Act → World → Prop} {n : Nat} (hy : ro = none ∨ gL y = true) (hq : Fin lo B c st w n Φ Q) : Fin lo B c st w n (Then P lo y Φ) (Exit.then (WP ro P y Q) Q) := by
 intro e fr' st' D' c' a' w' h1 h2 h3 h4 h5
 cases e with
 | normal => exact h1 h2 hy (hq.trans h3 h4 h5)
 | exit id => exact hq _ _ _ _ _ _ _ h1 h2 h3 h4 h5
 | ret => exact hq _ _ _ _ _ _ _ h1 h2 h3 h4 h5
theorem W.seq {x y : Code} (h : W P lo x fr st (Then P lo y Φ)) : W P lo (.seq x y) fr st Φ := by
 intro ro B D c w a he hr Q hq
 have hx := hr.imp id fun h => (mh h).1
 have hy := hr.imp id fun h => (mh h).2
 refine wpIn_seq (wpIn_mono (h he hx (w7 hy hq)).wp fun e a w hq => by cases e <;> first | exact WP.wp hq | exact hq)
theorem W.cond {x : Operand} {y z : Code} {b : Bool} (hx : evS fr x = some (.bool b)) (h1 : b = true → W P lo y fr st Φ) (h2 : b = false → W P lo z fr st Φ) : W P lo (.cond x y z) fr st Φ := by
 intro ro B D c w a he hr Q hq
 have hd : a.eval x = .bool b := he.fr.eval x _ hx
 refine wpIn_cond hd ?_
 cases b with
 | true => exact (h1 rfl he (hr.imp id fun h => (mh h).1) hq).wp
 | false => exact (h2 rfl he (hr.imp id fun h => (mh h).2) hq).wp
def Leave (id : Nat) (Φ : Ex → Fr → St → Prop) : Ex → Fr → St → Prop
 | .exit j, fr, st => if j = id then Φ .normal fr st else Φ (.exit j) fr st
 | x, fr, st => Φ x fr st
theorem W.block {id : Nat} {x : Code} (h : W P lo x fr st (Leave id Φ)) : W P lo (.block id x) fr st Φ := by
 intro ro B D c w a he hr Q hq
 refine wpIn_block (h he hr fun e fr' st' D' c' a' w' h1 h2 h3 h4 h5 => ?_).wp
 cases e with
 | normal => exact hq _ _ _ _ _ _ _ h1 h2 h3 h4 h5
 | ret => exact hq _ _ _ _ _ _ _ h1 h2 h3 h4 h5
 | exit j =>
  show (if j = id then Q .normal a' w' else Q (.exit j) a' w')
  by_cases e : j = id
  ·rw [if_pos e]
   have h1 : (if j = id then Φ .normal fr' st' else Φ (.exit j) fr' st') := h1
   rw [if_pos e] at h1
   exact hq .normal _ _ _ _ _ _ h1 h2 h3 h4 h5
  ·rw [if_neg e]
   have h1 : (if j = id then Φ .normal fr' st' else Φ (.exit j) fr' st') := h1
   rw [if_neg e] at h1
   exact hq (.exit j) _ _ _ _ _ _ h1 h2 h3 h4 h5
theorem W.loop {x : Code} (h : W P lo x fr st (Then P lo (.loop x) Φ)) : W P lo (.loop x) fr st Φ := by
 intro ro B D c w a he hr Q hq
 exact kh.turn (h he hr (w7 hr hq)).wp
theorem W.scope {x : Code} (h : W P lo x fr st Φ) : W P lo (.scope x) fr st Φ := by
 intro ro B D c w a he hr Q hq
 refine zR (h he hr fun e fr' st' D' c' a' w' h1 h2 h3 h4 h5 => ?_).wp
 have := hq e fr' st' D' c' a' w' h1 h2 h3 h4 h5
 cases e <;> exact this
end
end Sv
