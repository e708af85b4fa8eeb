/- For ConcreteHidden: values as trees, and the worlds that bear them. -/
import Derived.WalkKit
set_option linter.unusedVariables false
set_option linter.unusedSimpArgs false
set_option linter.unusedSectionVars false
namespace Sv
open Go
inductive SVal where
 | bool (b : Bool)
 | int (k : IntKind) (n : Int)
 | str (s : List UInt8)
 | nilPtr
 | ptr (k off : Nat)
 | ec (k s i off : Nat)
 | bA (row : List SVal) (off : Nat)
 | az
 | lst (full : Bool) (rows : List (List SVal))
 | own (k s : Nat)
 | dy
 | map (k : Nat)
 | func (fn : Fn) (first cap : List SVal)
 | eE
 | nilIface
 | iface (t : TypeId) (v : SVal)
 | agg (l : List SVal)
 | tup (l : List SVal)
inductive Loc where
 | box (blk : Nat)
 | row (blk : Option Nat) (stamp size : Nat) (val : Value)
structure Ctx where
 ρ : Nat → Option Loc
 fz : Nat → Nat → Option Value
mutual
def Den (c : Ctx) : SVal → Value → Prop
 | .bool b, v => v = .bool b
 | .int k n, v => v = .int k n
 | .str s, v => v = .string ⟨s.toArray⟩
 | .nilPtr, v => v = .pointer none
 | .ptr k off, v => ∃ b, c.ρ k = some (.box b) ∧ v = .pointer (some ⟨b, off, none⟩)
 | .ec k s i off, v => (∃ a, v = .pointer (some a)) ∧ ∃ b st sz u, c.ρ k = some (.row b st sz u) ∧ s ≤ st ∧ (st = s → ∃ r, b = some r ∧ v = .pointer (some ⟨r, i * sz + off, none⟩))
 | .bA row off, v => ∃ b base, v = .pointer (some ⟨b, base + off, none⟩) ∧ bF c b row base
 | .az, v => v = .slice none 0 0
 | .lst full rows, v => (rows = [] ∧ ∃ a cap, v = .slice a 0 cap ∧ (full = true → cap = 0)) ∨
   ∃ b base size cap, v = .slice (some ⟨b, base, none⟩) rows.length cap ∧ rows.length ≤ cap ∧ (full = true → cap = rows.length) ∧ bp c b size rows base
 | .own k s, v => (∃ a n cap, v = .slice a n cap) ∧ ∃ b st sz u, c.ρ k = some (.row b st sz u) ∧ s ≤ st ∧ (st = s → v = u)
 | .dy, v => v = .map none
 | .map k, v => ∃ b, c.ρ k = some (.box b) ∧ v = .map (some b)
 | .func fn x y, v => match fn with
  | .yield k => ∃ b, c.ρ k = some (.box b) ∧ v = .func (.yield b) #[] #[]
  | fn => ∃ xs ys, aM c x xs ∧ aM c y ys ∧ v = .func fn xs.toArray ys.toArray
 | .eE, v => v = .nilFunc
 | .nilIface, v => v = .nilIface
 | .iface t s, v => ∃ u, Den c s u ∧ v = .iface t u
 | .agg l, v => ∃ vs, aM c l vs ∧ v = .agg vs.toArray
 | .tup l, v => ∃ vs, aM c l vs ∧ v = .tuple vs.toArray
def aM (c : Ctx) : List SVal → List Value → Prop
 | [], vs => vs = []
 | s :: r, vs => ∃ v l, Den c s v ∧ aM c r l ∧ vs = v :: l
def bF (c : Ctx) (b : Nat) : List SVal → Nat → Prop
 | [], _ => True
 | s :: r, i => (∃ u, c.fz b i = some u ∧ u.oneCell' = true ∧ Den c s u) ∧ bF c b r (i + 1)
def bp (c : Ctx) (b size : Nat) : List (List SVal) → Nat → Prop
 | [], _ => True
 | row :: r, i => row.length = size ∧ bF c b row i ∧ bp c b size r (i + size)
end
def cS : Loc → Loc → Prop
 | .box b, l => l = .box b
 | .row b st sz u, l => l = .row b st sz u ∨ ∃ b' st' sz' u', l = .row b' st' sz' u' ∧ st < st'
theorem cS.refl : ∀ l, cS l l
 | .box _ => rfl
 | .row .. => .inl rfl
theorem cS.trans {a b c : Loc} (h : cS a b) (k : cS b c) : cS a c := by
 cases a with
 | box x => cases h; exact k
 | row x st sz u =>
  rcases h with rfl | ⟨b', st', sz', u', rfl, h⟩
  ·exact k
  ·rcases k with rfl | ⟨b2, st2, sz2, u2, rfl, k⟩
   ·exact .inr ⟨_, _, _, _, rfl, h⟩
   ·exact .inr ⟨_, _, _, _, rfl, Nat.lt_trans h k⟩
structure Le (c c' : Ctx) : Prop where
 ρ : ∀ k l, c.ρ k = some l → ∃ l', c'.ρ k = some l' ∧ cS l l'
 fz : ∀ b i v, c.fz b i = some v → c'.fz b i = some v
theorem Le.refl (c : Ctx) : Le c c := ⟨fun _ l h => ⟨l, h, cS.refl l⟩, fun _ _ _ h => h⟩
theorem Le.trans {a b c : Ctx} (h : Le a b) (k : Le b c) : Le a c :=
 ⟨fun n l e => let ⟨l1, h1, h2⟩ := h.ρ n l e; let ⟨l2, h3, h4⟩ := k.ρ n l1 h1; ⟨l2, h3, h2.trans h4⟩, fun b i v e => k.fz b i v (h.fz b i v e)⟩
theorem Le.box {c c' : Ctx} (h : Le c c') {k b : Nat} (e : c.ρ k = some (.box b)) : c'.ρ k = some (.box b) := by
 obtain ⟨l, h1, h2⟩ := h.ρ k _ e
 cases h2
 exact h1
mutual
theorem Den.le {c c' : Ctx} (h : Le c c') : ∀ (s : SVal) (v : Value), Den c s v → Den c' s v
 | .bool _, _, e => e
 | .int _ _, _, e => e
 | .str _, _, e => e
 | .nilPtr, _, e => e
 | .ptr k off, v, ⟨b, h1, h2⟩ => ⟨b, h.box h1, h2⟩
 | .ec k s i off, v, ⟨h0, b, st, sz, u, h1, h2, h3⟩ => by
  obtain ⟨l, h4, h5⟩ := h.ρ k _ h1
  rcases h5 with rfl | ⟨b', st', sz', u', rfl, h5⟩
  ·exact ⟨h0, b, st, sz, u, h4, h2, h3⟩
  ·exact ⟨h0, b', st', sz', u', h4, by omega, fun e => by omega⟩
 | .bA row off, v, ⟨b, base, h1, h2⟩ => ⟨b, base, h1, bF.le h b row base h2⟩
 | .az, _, e => e
 | .lst full rows, v, e => by
  rcases e with e | ⟨b, base, size, cap, h1, h2, h3, h4⟩
  ·exact .inl e
  ·exact .inr ⟨b, base, size, cap, h1, h2, h3, bp.le h b size rows base h4⟩
 | .own k s, v, ⟨h0, b, st, sz, u, h1, h2, h3⟩ => by
  obtain ⟨l, h4, h5⟩ := h.ρ k _ h1
  rcases h5 with rfl | ⟨b', st', sz', u', rfl, h5⟩
  ·exact ⟨h0, b, st, sz, u, h4, h2, h3⟩
  ·exact ⟨h0, b', st', sz', u', h4, by omega, fun e => by omega⟩
 | .dy, _, e => e
 | .map k, v, ⟨b, h1, h2⟩ => ⟨b, h.box h1, h2⟩
 | .func fn x y, v, e => by
  cases fn <;> first
   | (obtain ⟨b, h1, h2⟩ := e; exact ⟨b, h.box h1, h2⟩)
   | (obtain ⟨xs, ys, h1, h2, h3⟩ := e; exact ⟨xs, ys, aM.le h x xs h1, aM.le h y ys h2, h3⟩)
 | .eE, _, e => e
 | .nilIface, _, e => e
 | .iface t s, v, ⟨u, h1, h2⟩ => ⟨u, Den.le h s u h1, h2⟩
 | .agg l, v, ⟨vs, h1, h2⟩ => ⟨vs, aM.le h l vs h1, h2⟩
 | .tup l, v, ⟨vs, h1, h2⟩ => ⟨vs, aM.le h l vs h1, h2⟩
theorem aM.le {c c' : Ctx} (h : Le c c') : ∀ (l : List SVal) (vs : List Value), aM c l vs → aM c' l vs
 | [], _, e => e
 | s :: r, vs, ⟨v, l, h1, h2, h3⟩ => ⟨v, l, Den.le h s v h1, aM.le h r l h2, h3⟩
theorem bF.le {c c' : Ctx} (h : Le c c') (b : Nat) : ∀ (row : List SVal) (i : Nat), bF c b row i → bF c' b row i
 | [], _, _ => trivial
 | s :: r, i, ⟨⟨u, h1, h0, h2⟩, h3⟩ => ⟨⟨u, h.fz b i u h1, h0, Den.le h s u h2⟩, bF.le h b r (i + 1) h3⟩
theorem bp.le {c c' : Ctx} (h : Le c c') (b size : Nat) : ∀ (rows : List (List SVal)) (i : Nat), bp c b size rows i → bp c' b size rows i
 | [], _, _ => trivial
 | row :: r, i, ⟨h1, h2, h3⟩ => ⟨h1, bF.le h b row i h2, bp.le h b size r (i + size) h3⟩
end
theorem aM.nil {c : Ctx} {vs : List Value} : aM c [] vs ↔ vs = [] := Iff.rfl
theorem aM.cons {c : Ctx} {s : SVal} {r : List SVal} {vs : List Value} : aM c (s :: r) vs ↔ ∃ v l, Den c s v ∧ aM c r l ∧ vs = v :: l := Iff.rfl
theorem aM.length {c : Ctx} : ∀ {l : List SVal} {vs : List Value}, aM c l vs → vs.length = l.length
 | [], _, h => by rw [aM.nil.1 h]; rfl
 | s :: r, _, ⟨v, l, _, hl, e⟩ => by subst e; simp [aM.length hl]
theorem aM.get {c : Ctx} : ∀ {l : List SVal} {vs : List Value} {i : Nat}, aM c l vs → ∀ {s}, l[i]? = some s → ∃ v, vs[i]? = some v ∧ Den c s v
 | [], _, _, _, _, hs => by simp at hs
 | s :: r, vs, i, ⟨v, l, hv, hl, e⟩, s', hs => by
  subst e
  cases i with
  | zero => simp at hs; subst hs; exact ⟨v, rfl, hv⟩
  | succ i => simp at hs; simpa using aM.get hl hs
theorem aM.append {c : Ctx} : ∀ {a b : List SVal} {vs : List Value}, aM c (a ++ b) vs ↔ ∃ x y, aM c a x ∧ aM c b y ∧ vs = x ++ y
 | [], b, vs => by
  constructor
  ·exact fun h => ⟨[], vs, rfl, h, rfl⟩
  ·rintro ⟨x, y, hx, hy, e⟩
   cases hx
   rw [e]
   exact hy
 | s :: a, b, vs => by
  rw [List.cons_append, aM.cons]
  constructor
  ·rintro ⟨v, l, hv, hl, rfl⟩
   obtain ⟨x, y, hx, hy, rfl⟩ := aM.append.1 hl
   exact ⟨v :: x, y, ⟨v, x, hv, hx, rfl⟩, hy, rfl⟩
  ·rintro ⟨x, y, ⟨v, l, hv, hl, rfl⟩, hy, rfl⟩
   exact ⟨v, l ++ y, hv, aM.append.2 ⟨l, y, hl, hy, rfl⟩, rfl⟩
theorem aM.lN {c : Ctx} : ∀ {l : List SVal} {vs : List Value}, vs.length = l.length → (∀ (i : Nat) (s : SVal), l[i]? = some s → ∃ v, vs[i]? = some v ∧ Den c s v) → aM c l vs
 | [], vs, hl, _ => List.length_eq_zero_iff.1 hl
 | s :: r, [], hl, _ => by simp at hl
 | s :: r, v :: vs, hl, h => by
  obtain ⟨v', hv', hd⟩ := h 0 s rfl
  simp at hv'
  subst hv'
  refine aM.cons.2 ⟨v, vs, hd, aM.lN (by simpa using hl) fun i s' hs' => ?_, rfl⟩
  simpa using h (i + 1) s' (by simpa using hs')
theorem aM.take {c : Ctx} {l : List SVal} {vs : List Value} (h : aM c l vs) (n : Nat) : aM c (l.take n) (vs.take n) := by
 have hl := h.length
 refine aM.lN (by simp [hl]) fun i s hs => ?_
 rw [List.getElem?_take] at hs
 split at hs
 ·rename_i hi
  obtain ⟨v, hv, hd⟩ := h.get hs
  exact ⟨v, by rw [List.getElem?_take, if_pos hi]; exact hv, hd⟩
 ·cases hs
theorem aM.drop {c : Ctx} {l : List SVal} {vs : List Value} (h : aM c l vs) (n : Nat) : aM c (l.drop n) (vs.drop n) := by
 have hl := h.length
 refine aM.lN (by simp [hl]) fun i s hs => ?_
 rw [List.getElem?_drop] at hs ⊢
 exact h.get hs
def bD : SVal → List SVal
 | .agg l => l
 | v => [v]
def rD : SVal → Bool
 | .agg _ => false
 | .tup _ => false
 | _ => true
theorem kU {c : Ctx} {s : SVal} {v : Value} (h : rD s = true) (hd : Den c s v) : v.oneCell' = true := by
 cases s <;> simp only [rD, Bool.false_eq_true] at h <;> try (cases hd; rfl)
 case ptr => obtain ⟨b, _, rfl⟩ := hd; rfl
 case ec => obtain ⟨⟨a, rfl⟩, _⟩ := hd; rfl
 case bA => obtain ⟨b, base, rfl, _⟩ := hd; rfl
 case lst =>
  rcases hd with ⟨_, a, cap, rfl, _⟩ | ⟨b, base, size, cap, rfl, _⟩ <;> rfl
 case own => obtain ⟨⟨a, n, cap, rfl⟩, _⟩ := hd; rfl
 case map => obtain ⟨b, _, rfl⟩ := hd; rfl
 case func fn x y =>
  cases fn <;> first
   | (obtain ⟨b, _, rfl⟩ := hd; rfl)
   | (obtain ⟨xs, ys, _, _, rfl⟩ := hd; rfl)
 case iface => obtain ⟨u, _, rfl⟩ := hd; rfl
theorem yM {c : Ctx} {s : SVal} {v : Value} (h : rD s = true) (hd : Den c s v) : v.cells = #[v] := by
 have := kU h hd
 cases v <;> first | rfl | (cases this)
theorem di {c : Ctx} {s : SVal} {v : Value} (h : Den c s v) : aM c (bD s) v.cells.toList := by
 cases hf : rD s with
 | true =>
  have e : bD s = [s] := by cases s <;> first | rfl | (cases hf)
  rw [e, yM hf h]
  exact ⟨v, [], h, rfl, rfl⟩
 | false =>
  cases s <;> simp only [rD, reduceCtorEq] at hf
  ·obtain ⟨vs, h1, rfl⟩ := h
   simpa [bD, Value.cells] using h1
  ·obtain ⟨vs, h1, rfl⟩ := h
   exact ⟨_, [], ⟨vs, h1, rfl⟩, rfl, rfl⟩
def oR (l : List SVal) : Prop := ∀ s ∈ l, rD s = true
theorem iy {c : Ctx} {l : List SVal} {vs : List Value} (h : oR l) (hd : aM c l vs) : ∀ v ∈ vs, v.oneCell' = true := by
 intro v hv
 obtain ⟨i, hi⟩ := List.getElem?_of_mem hv
 have hl := hd.length
 have : i < l.length := by rw [← hl]; exact (List.getElem?_eq_some_iff.1 hi).1
 obtain ⟨u, hu, hd'⟩ := hd.get (List.getElem?_eq_getElem this)
 rw [hi] at hu
 cases hu
 exact kU (h _ (List.getElem_mem this)) hd'
def cY : Fn → Bool
 | .yield _ => false
 | _ => true
mutual
def closed : SVal → Bool
 | .ptr _ _ => false
 | .ec _ _ _ _ => false
 | .own _ _ => false
 | .map _ => false
 | .bA row _ => aw row
 | .lst _ rows => aJ rows
 | .func fn x y => cY fn && aw x && aw y
 | .iface _ v => closed v
 | .agg l => aw l
 | .tup l => aw l
 | _ => true
def aw : List SVal → Bool
 | [] => true
 | s :: r => closed s && aw r
def aJ : List (List SVal) → Bool
 | [] => true
 | row :: r => aw row && aJ r
end
mutual
theorem Den.free {c c' : Ctx} (h : ∀ b i v, c.fz b i = some v → c'.fz b i = some v) : ∀ (s : SVal) (v : Value), closed s = true → Den c s v → Den c' s v
 | .bool _, _, _, e => e
 | .int _ _, _, _, e => e
 | .str _, _, _, e => e
 | .nilPtr, _, _, e => e
 | .ptr _ _, _, k, _ => by cases k
 | .ec _ _ _ _, _, k, _ => by cases k
 | .bA row off, v, k, ⟨b, base, h1, h2⟩ => ⟨b, base, h1, bF.free h b row base k h2⟩
 | .az, _, _, e => e
 | .lst full rows, v, k, e => by
  rcases e with e | ⟨b, base, size, cap, h1, h2, h3, h4⟩
  ·exact .inl e
  ·exact .inr ⟨b, base, size, cap, h1, h2, h3, bp.free h b size rows base k h4⟩
 | .own _ _, _, k, _ => by cases k
 | .dy, _, _, e => e
 | .map _, _, k, _ => by cases k
 | .func fn x y, v, k, e => by
  rw [closed, Bool.and_eq_true, Bool.and_eq_true] at k
  cases fn <;> first
   | (obtain ⟨xs, ys, h1, h2, h3⟩ := e; exact ⟨xs, ys, aM.free h x xs k.1.2 h1, aM.free h y ys k.2 h2, h3⟩)
   | (simp [cY] at k)
 | .eE, _, _, e => e
 | .nilIface, _, _, e => e
 | .iface t s, v, k, ⟨u, h1, h2⟩ => ⟨u, Den.free h s u k h1, h2⟩
 | .agg l, v, k, ⟨vs, h1, h2⟩ => ⟨vs, aM.free h l vs k h1, h2⟩
 | .tup l, v, k, ⟨vs, h1, h2⟩ => ⟨vs, aM.free h l vs k h1, h2⟩
theorem aM.free {c c' : Ctx} (h : ∀ b i v, c.fz b i = some v → c'.fz b i = some v) : ∀ (l : List SVal) (vs : List Value), aw l = true → aM c l vs → aM c' l vs
 | [], _, _, e => e
 | s :: r, vs, k, ⟨v, l, h1, h2, h3⟩ => by
  rw [aw, Bool.and_eq_true] at k
  exact ⟨v, l, Den.free h s v k.1 h1, aM.free h r l k.2 h2, h3⟩
theorem bF.free {c c' : Ctx} (h : ∀ b i v, c.fz b i = some v → c'.fz b i = some v) (b : Nat) : ∀ (row : List SVal) (i : Nat), aw row = true → bF c b row i → bF c' b row i
 | [], _, _, _ => trivial
 | s :: r, i, k, ⟨⟨u, h1, h0, h2⟩, h3⟩ => by
  rw [aw, Bool.and_eq_true] at k
  exact ⟨⟨u, h b i u h1, h0, Den.free h s u k.1 h2⟩, bF.free h b r (i + 1) k.2 h3⟩
theorem bp.free {c c' : Ctx} (h : ∀ b i v, c.fz b i = some v → c'.fz b i = some v) (b size : Nat) : ∀ (rows : List (List SVal)) (i : Nat), aJ rows = true → bp c b size rows i → bp c' b size rows i
 | [], _, _, _ => trivial
 | row :: r, i, k, ⟨h1, h2, h3⟩ => by
  rw [aJ, Bool.and_eq_true] at k
  exact ⟨h1, bF.free h b row i k.1 h2, bp.free h b size r (i + size) k.2 h3⟩
end
theorem bF.get {c : Ctx} {b : Nat} : ∀ {row : List SVal} {i j : Nat} {s : SVal}, bF c b row i → row[j]? = some s → ∃ u, c.fz b (i + j) = some u ∧ u.oneCell' = true ∧ Den c s u
 | [], _, _, _, _, h => by simp at h
 | s :: r, i, 0, s', ⟨h1, _⟩, h => by simp at h; subst h; exact h1
 | s :: r, i, j + 1, s', ⟨_, h2⟩, h => by
  obtain ⟨u, h3, h4⟩ := bF.get h2 (show r[j]? = some s' by simpa using h)
  exact ⟨u, by rw [← h3]; congr 1; omega, h4⟩
theorem bF.of {c : Ctx} {b : Nat} : ∀ {row : List SVal} {i : Nat}, (∀ j s, row[j]? = some s → ∃ u, c.fz b (i + j) = some u ∧ u.oneCell' = true ∧ Den c s u) → bF c b row i
 | [], _, _ => trivial
 | s :: r, i, h => ⟨by simpa using h 0 s rfl, bF.of fun j s' hs => by
  obtain ⟨u, h1, h2⟩ := h (j + 1) s' (by simpa using hs)
  exact ⟨u, by rw [← h1]; congr 1; omega, h2⟩⟩
theorem bp.get {c : Ctx} {b size : Nat} : ∀ {rows : List (List SVal)} {i j : Nat} {row : List SVal}, bp c b size rows i → rows[j]? = some row → row.length = size ∧ bF c b row (i + j * size)
 | [], _, _, _, _, h => by simp at h
 | row :: r, i, 0, row', ⟨h1, h2, _⟩, h => by simp at h; subst h; exact ⟨h1, by simpa using h2⟩
 | row :: r, i, j + 1, row', ⟨_, _, h3⟩, h => by
  obtain ⟨h4, h5⟩ := bp.get h3 (show r[j]? = some row' by simpa using h)
  exact ⟨h4, by rw [Nat.add_mul, Nat.one_mul, ← Nat.add_assoc, Nat.add_right_comm]; exact h5⟩
theorem bp.of {c : Ctx} {b size : Nat} : ∀ {rows : List (List SVal)} {i : Nat}, (∀ j row, rows[j]? = some row → row.length = size ∧ bF c b row (i + j * size)) → bp c b size rows i
 | [], _, _ => trivial
 | row :: r, i, h => by
  obtain ⟨h1, h2⟩ := h 0 row rfl
  refine ⟨h1, by simpa using h2, bp.of fun j row' hr => ?_⟩
  obtain ⟨h3, h4⟩ := h (j + 1) row' (by simpa using hr)
  exact ⟨h3, by rw [Nat.add_mul, Nat.one_mul, ← Nat.add_assoc, Nat.add_right_comm] at h4; exact h4⟩
end Sv
namespace Sv
open Go
structure Fr where
 n : Nat
 t : List (Nat × SVal)
structure gD where
 fr : Fr
 ps : List Nat
 assign : Code
 body : Code
 state : Nat
 ji : Option Code
inductive aV where
 | cells (l : List SVal)
 | still (l : List SVal)
 | row (m : Nat) (rows : List (List SVal)) (s : Nat) (froz : Bool)
 | map (es : List (SVal × SVal))
 | loop (r : gD)
 | jl (g : Nat) (l : List SVal)
abbrev Hp := List (Nat × aV)
noncomputable def ba {α : Type} (t : List (Nat × α)) (n : Nat) : Option α :=
 List.rec (motive := fun _ => Option α) none (fun p _ ih => Prod.rec (fun k v => Bool.rec ih (some v) (Nat.beq k n)) p) t
noncomputable def fY {α : Type} (t : List (Nat × α)) (n : Nat) (x : α) : List (Nat × α) :=
 List.rec (motive := fun _ => List (Nat × α)) [(n, x)] (fun p r ih => Bool.rec (p :: ih) ((n, x) :: r) (Nat.beq p.1 n)) t
noncomputable def adel {α : Type} (t : List (Nat × α)) (n : Nat) : List (Nat × α) :=
 List.rec (motive := fun _ => List (Nat × α)) [] (fun p _ ih => Bool.rec (p :: ih) ih (Nat.beq p.1 n)) t
theorem beq_true {a b : Nat} (h : Nat.beq a b = true) : a = b := Nat.eq_of_beq_eq_true h
theorem oj {a b : Nat} (h : a = b) : Nat.beq a b = true := by subst h; exact Nat.beq_refl a
theorem ma {a b : Nat} (h : a ≠ b) : Nat.beq a b = false := by
 cases e : Nat.beq a b with
 | false => rfl
 | true => exact absurd (Nat.eq_of_beq_eq_true e) h
theorem beq_false {a b : Nat} (h : Nat.beq a b = false) : a ≠ b := fun e => by rw [oj e] at h; cases h
theorem cr {a b : Nat} (h : Nat.ble a b = true) : a ≤ b := Nat.le_of_ble_eq_true h
theorem lh {a b : Nat} (h : Nat.ble a b = false) : b < a := by
 rcases Nat.lt_or_ge b a with hl | hl
 ·exact hl
 ·rw [Nat.ble_eq_true_of_le hl] at h; cases h
section
variable {α : Type}
theorem bI (p : Nat × α) (r : List (Nat × α)) (n : Nat) : ba (p :: r) n = if p.1 = n then some p.2 else ba r n := by
 show @Bool.rec (fun _ => Option α) (ba r n) (some p.2) (Nat.beq p.1 n) = _
 by_cases h : p.1 = n
 ·rw [if_pos h, oj h]
 ·rw [if_neg h, ma h]
theorem aput_cons (p : Nat × α) (r : List (Nat × α)) (n : Nat) (x : α) : fY (p :: r) n x = if p.1 = n then (n, x) :: r else p :: fY r n x := by
 show @Bool.rec (fun _ => List (Nat × α)) (p :: fY r n x) ((n, x) :: r) (Nat.beq p.1 n) = _
 by_cases h : p.1 = n
 ·rw [if_pos h, oj h]
 ·rw [if_neg h, ma h]
theorem adel_cons (p : Nat × α) (r : List (Nat × α)) (n : Nat) : adel (p :: r) n = if p.1 = n then adel r n else p :: adel r n := by
 show @Bool.rec (fun _ => List (Nat × α)) (p :: adel r n) (adel r n) (Nat.beq p.1 n) = _
 by_cases h : p.1 = n
 ·rw [if_pos h, oj h]
 ·rw [if_neg h, ma h]
theorem zy (n : Nat) (x : α) (m : Nat) : ∀ t : List (Nat × α), ba (fY t n x) m = if m = n then some x else ba t m
 | [] => by
  show ba [(n, x)] m = _
  rw [bI]
  by_cases h : n = m
  ·subst h; simp
  ·rw [if_neg h, if_neg (Ne.symm h)]
 | p :: r => by
  rw [aput_cons]
  by_cases h : p.1 = n
  ·rw [if_pos h, bI, bI]
   by_cases e : n = m
   ·subst e; simp
   ·rw [if_neg e, if_neg (Ne.symm e), if_neg (by rw [h]; exact e)]
  ·rw [if_neg h, bI, bI, zy n x m r]
   by_cases e : m = n
   ·subst e; simp [h]
   ·simp [e]
theorem sC (n m : Nat) : ∀ t : List (Nat × α), ba (adel t n) m = if m = n then none else ba t m
 | [] => by show none = _; split <;> rfl
 | p :: r => by
  rw [adel_cons]
  by_cases h : p.1 = n
  ·rw [if_pos h, sC n m r, bI]
   by_cases e : m = n
   ·simp [e]
   ·rw [if_neg e, if_neg e, if_neg (by rw [h]; exact Ne.symm e)]
  ·rw [if_neg h, bI, bI, sC n m r]
   by_cases e : m = n
   ·subst e; simp [h]
   ·simp [e]
end
structure St where
 heap : Hp
 next : Nat
 mark : Nat
 log : List Nat
 ban : List (Nat × Nat)
noncomputable def bN (k : Nat) (l : List (Nat × Nat)) : Bool :=
 List.rec (motive := fun _ => Bool) false (fun p _ ih => Bool.rec ih (Bool.rec ih true (Nat.ble (Nat.succ k) p.2)) (Nat.ble p.1 k)) l
abbrev eT := Nat → Option aV
namespace St
noncomputable def look (st : St) (k : Nat) : Option aV := Bool.rec (ba st.heap k) none (bN k st.ban)
noncomputable def note (st : St) (k : Nat) : List Nat := Bool.rec st.log (k :: st.log) (Nat.ble (Nat.succ k) st.mark)
noncomputable def put (st : St) (k : Nat) (o : aV) : St := ⟨fY st.heap k o, st.next, st.mark, st.note k, st.ban⟩
noncomputable def drop (st : St) (k : Nat) : St := ⟨adel st.heap k, st.next, st.mark, st.note k, st.ban⟩
def fresh (st : St) (o : aV) : St := ⟨(st.next, o) :: st.heap, st.next + 1, st.mark, st.log, st.ban⟩
end St
theorem look_eq (st : St) (k : Nat) : st.look k = if bN k st.ban = true then none else ba st.heap k := by
 unfold St.look
 cases bN k st.ban <;> rfl
theorem cm {st : St} {k : Nat} {o : aV} (h : st.look k = some o) : ba st.heap k = some o ∧ bN k st.ban = false := by
 rw [look_eq] at h
 cases hb : bN k st.ban with
 | true => rw [hb] at h; cases h
 | false => rw [hb] at h; exact ⟨h, rfl⟩
def fX : Loc → Option Nat
 | .box b => some b
 | .row b _ _ _ => b
noncomputable def Fr.get (fr : Fr) (t : Nat) : Option SVal := ba fr.t t
def kd (c : Ctx) (fr : Fr) (tmps : Array Value) : Prop := tmps.size = fr.n ∧ ∀ t s, fr.get t = some s → ∃ v, tmps[t]? = some v ∧ Den c s v
theorem kd.le {c c' : Ctx} {fr : Fr} {tmps : Array Value} (h : kd c fr tmps) (hle : Le c c') : kd c' fr tmps :=
 ⟨h.1, fun t s hs => let ⟨v, h1, h2⟩ := h.2 t s hs; ⟨v, h1, Den.le hle _ _ h2⟩⟩
def pE : Nat → LoopState
 | 0 => .ready
 | 1 => .busy
 | _ => .done
noncomputable def gL (c : Code) : Bool :=
 Code.rec (motive := fun _ => Bool) true (fun _ _ _ => true) (fun _ _ a b => Bool.rec false b a) (fun _ _ _ a b => Bool.rec false b a) (fun _ _ a => a) (fun _ a => a) (fun _ _ _ _ _ _ => false) (fun _ => true)
  (fun _ a => a) (fun _ => true) (fun _ => true) true (fun _ => true) c
structure pf (c : Ctx) (r : gD) (l : Loop) : Prop where
 oB : kd c r.fr l.tmps
 ps : l.params = r.ps.toArray
 assign : l.assign = r.assign
 body : l.body = r.body
 state : l.state = pE r.state
 ji : l.pending = r.ji
 one : gL r.assign = true
 two : gL r.body = true
def kj (c : Ctx) (es : List (SVal × SVal)) (l : List MapEntry) : Prop :=
 l.length = es.length ∧ ∀ (i : Nat) (p : SVal × SVal), es[i]? = some p → ∃ e, l[i]? = some e ∧ Den c p.1 e.key ∧ Den c p.2 e.val
def dq (c : Ctx) (rows : List (List SVal)) (sz : Nat) (arr : Array Value) : Prop :=
 ∀ i row, rows[i]? = some row → row.length = sz ∧ ∀ j s, row[j]? = some s → ∃ v, arr[i * sz + j]? = some v ∧ v.oneCell' = true ∧ Den c s v
structure RowIn (c : Ctx) (rows : List (List SVal)) (froz : Bool) (b sz : Nat) (u : Value) (w : World) (arr : Array Value) (e : TypeId) (cap : Nat) : Prop where
 val : u = .slice (some ⟨b, 0, none⟩) rows.length cap
 cells : w.heap[b]? = some (.cells arr e (0, 0))
 size : arr.size = cap * sz
 fits : rows.length ≤ cap
 elems : dq c rows sz arr
 fz : ∀ i v, c.fz b i = some v → froz = true ∧ i < rows.length * sz
def dG (c : Ctx) (o : aV) (l : Loc) (w : World) : Prop :=
 match o, l with
 | .cells cs, .box b => ∃ arr e, w.heap[b]? = some (.cells arr e (0, 0)) ∧ aM c cs arr.toList ∧ ∀ i v, c.fz b i ≠ some v
 | .still cs, .box b => ∃ arr e, w.heap[b]? = some (.cells arr e (0, 0)) ∧ aM c cs arr.toList ∧ ∀ (i : Nat) (v : Value), arr[i]? = some v → c.fz b i = some v
 | .row m rows s froz, .row ob st sz u => st = s ∧ sz = m ∧ match ob with
  | none => rows = [] ∧ ∃ a, u = .slice a 0 0
  | some b => ∃ arr e cap, RowIn c rows froz b sz u w arr e cap
 | .map es, .box b => ∃ ents clock, w.heap[b]? = some (.map ents clock) ∧ kj c es ents.toList
 | .loop r, .box b => ∃ x, w.heap[b]? = some (.loop x) ∧ pf c r x
 | .jl g cs, .row ob st _ u => ob = some g ∧ st = 0 ∧ ∃ arr e f, u = .tuple #[.int .i64 (e : Nat), .int .i64 (f.1 : Nat), .int .i64 (f.2 : Nat)] ∧ w.heap[g]? = some (.cells arr e f) ∧ aM c cs arr.toList
 | _, _ => False
def eD (c : Ctx) (H : eT) (r : Nat) : Prop := ∃ k o l, H k = some o ∧ c.ρ k = some l ∧ fX l = some r
structure Rep (c : Ctx) (H : eT) (w : World) : Prop where
 cW : ∀ k o, H k = some o → ∃ l, c.ρ k = some l ∧ dG c o l w
 sep : ∀ k j o o' l l' r, H k = some o → H j = some o' → k ≠ j → c.ρ k = some l → c.ρ j = some l' → fX l = some r → fX l' ≠ some r
 fz : ∀ b i v, c.fz b i = some v → ∃ arr e f, w.heap[b]? = some (.cells arr e f) ∧ arr[i]? = some v
structure Step (lo hi : Nat) (c : Ctx) (H : eT) (w : World) (c' : Ctx) (H' : eT) (w' : World) : Prop where
 le : Le c c'
 off : ∀ k, k < lo ∨ hi ≤ k → c.ρ k = none → c'.ρ k = none
 hid : ∀ k l, H k = none → c.ρ k = some l → H' k = none ∧ c'.ρ k = some l
 os : w'.os = w.os
 tape : w'.tape = w.tape
 output : w'.output = w.output
 size : w.heap.size ≤ w'.heap.size
 kept : ∀ r, r < w.heap.size → ¬ eD c H r → w'.heap[r]? = w.heap[r]?
 owns : ∀ r, eD c' H' r → eD c H r ∨ w.heap.size ≤ r
 nfz : ∀ b i v, c'.fz b i = some v → c.fz b i = some v ∨ eD c H b ∨ w.heap.size ≤ b
def mc (c : Ctx) (lo hi : Nat) : Prop := ∀ k, lo ≤ k → k < hi → c.ρ k = none
structure Sta (st st' : St) : Prop where
 ban : st'.ban = st.ban
 mark : st'.mark = st.mark
 next : st.next ≤ st'.next
 log : ∀ n ∈ st.log, n ∈ st'.log
 same : ∀ k, k < st.next → k < st.mark → k ∉ st'.log → ba st'.heap k = ba st.heap k
 wf : (∀ k, st.next ≤ k → ba st.heap k = none) → ∀ k, st'.next ≤ k → ba st'.heap k = none
 vis : ∀ n ∈ st'.log, n ∈ st.log ∨ (bN n st.ban = false ∧ n < st.mark)
theorem Sta.refl (st : St) : Sta st st := ⟨rfl, rfl, Nat.le_refl _, fun _ h => h, fun _ _ _ _ => rfl, fun h => h, fun _ h => .inl h⟩
theorem Sta.trans {a b c : St} (h : Sta a b) (k : Sta b c) : Sta a c :=
 ⟨k.ban.trans h.ban, k.mark.trans h.mark, Nat.le_trans h.next k.next, fun n hn => k.log n (h.log n hn),
  fun n h1 h2 h3 => (k.same n (Nat.lt_of_lt_of_le h1 h.next) (h.mark ▸ h2) h3).trans (h.same n h1 h2 fun e => h3 (k.log n e)), fun h0 => k.wf (h.wf h0),
  fun n hn => (k.vis n hn).elim (h.vis n) (fun hb => .inr ⟨h.ban ▸ hb.1, h.mark ▸ hb.2⟩)⟩
structure Wf (st : St) : Prop where
 none : ∀ k, st.next ≤ k → ba st.heap k = none
 ban : ∀ k, bN k st.ban = true → k < st.next
 mark : st.mark ≤ st.next
theorem Wf.sta {st st' : St} (h : Wf st) (k : Sta st st') : Wf st' := ⟨k.wf h.none, fun n hn => Nat.lt_of_lt_of_le (h.ban n (k.ban ▸ hn)) k.next, by rw [k.mark]; exact Nat.le_trans h.mark k.next⟩
theorem Step.refl (n : Nat) (c : Ctx) (H : eT) (w : World) : Step n n c H w c H w :=
 ⟨Le.refl c, fun _ _ h => h, fun _ _ h h' => ⟨h, h'⟩, rfl, rfl, rfl, Nat.le_refl _, fun _ _ _ => rfl, fun _ h => .inl h, fun _ _ _ h => .inl h⟩
theorem Step.trans' {lo hi : Nat} {c c1 c2 : Ctx} {H H1 H2 : eT} {w w1 w2 : World} (h : Step lo hi c H w c1 H1 w1) (k : Step lo hi c1 H1 w1 c2 H2 w2) : Step lo hi c H w c2 H2 w2 where
 le := h.le.trans k.le
 off := fun n hn e => k.off n hn (h.off n hn e)
 hid := fun n l e e' => let ⟨h1, h2⟩ := h.hid n l e e'; k.hid n l h1 h2
 os := k.os.trans h.os
 tape := k.tape.trans h.tape
 output := k.output.trans h.output
 size := Nat.le_trans h.size k.size
 kept := fun r hr hn => (k.kept r (Nat.lt_of_lt_of_le hr h.size) fun ho => (h.owns r ho).elim hn (fun h' => by omega)).trans (h.kept r hr hn)
 owns := fun r ho => (k.owns r ho).elim (h.owns r) (fun h' => .inr (Nat.le_trans h.size h'))
 nfz := fun b i v e => by
  rcases k.nfz b i v e with h1 | h1 | h1
  ·exact h.nfz b i v h1
  ·exact .inr (h.owns b h1)
  ·exact .inr (.inr (Nat.le_trans h.size h1))
theorem Step.wide {a b a' b' : Nat} {c c' : Ctx} {H H' : eT} {w w' : World} (h : Step a b c H w c' H' w') (h1 : a' ≤ a) (h2 : b ≤ b') : Step a' b' c H w c' H' w' :=
 ⟨h.le, fun k hk => h.off k (by omega), h.hid, h.os, h.tape, h.output, h.size, h.kept, h.owns, h.nfz⟩
theorem Step.trans {a b d : Nat} {c c1 c2 : Ctx} {H H1 H2 : eT} {w w1 w2 : World} (h : Step a b c H w c1 H1 w1) (k : Step b d c1 H1 w1 c2 H2 w2) (hab : a ≤ b) (hbd : b ≤ d) : Step a d c H w c2 H2 w2 :=
 (h.wide (Nat.le_refl _) hbd).trans' (k.wide hab (Nat.le_refl _))
theorem mc.mono {c : Ctx} {a b a' b' : Nat} (h : mc c a b) (h1 : a ≤ a') (h2 : b' ≤ b) : mc c a' b' := fun k hk hk' => h k (by omega) (by omega)
theorem mc.step {a b d : Nat} {c c' : Ctx} {H H' : eT} {w w' : World} (h : mc c a d) (k : Step a b c H w c' H' w') (hab : a ≤ b) : mc c' b d := fun n hn hn' => k.off n (by omega) (h n (by omega) hn')
theorem kj.le {c c' : Ctx} (h : Le c c') {es : List (SVal × SVal)} {l : List MapEntry} (k : kj c es l) : kj c' es l :=
 ⟨k.1, fun i p hp => let ⟨e, h1, h2, h3⟩ := k.2 i p hp; ⟨e, h1, Den.le h _ _ h2, Den.le h _ _ h3⟩⟩
theorem dq.le {c c' : Ctx} (h : Le c c') {rows : List (List SVal)} {sz : Nat} {arr : Array Value} (k : dq c rows sz arr) : dq c' rows sz arr := fun i row hr =>
 ⟨(k i row hr).1, fun j s hs => let ⟨v, h1, h0, h2⟩ := (k i row hr).2 j s hs; ⟨v, h1, h0, Den.le h _ _ h2⟩⟩
theorem pf.le {c c' : Ctx} (h : Le c c') {r : gD} {l : Loop} (k : pf c r l) : pf c' r l := ⟨k.oB.le h, k.ps, k.assign, k.body, k.state, k.ji, k.one, k.two⟩
theorem dG.pk {c c' : Ctx} {o : aV} {l : Loc} {w w' : World} (h : dG c o l w) (hle : Le c c') (hk : ∀ b, fX l = some b → w'.heap[b]? = w.heap[b]?) (hf : ∀ b, fX l = some b → ∀ i v, c'.fz b i = some v → c.fz b i = some v) : dG c' o l w' := by
 cases o with
 | cells cs => cases l with
  | row => exact h.elim
  | box b =>
   obtain ⟨arr, e, h1, h2, h3⟩ := h
   exact ⟨arr, e, (hk b rfl).trans h1, aM.le hle _ _ h2, fun i v hv => h3 i v (hf b rfl i v hv)⟩
 | still cs => cases l with
  | row => exact h.elim
  | box b =>
   obtain ⟨arr, e, h1, h2, h3⟩ := h
   exact ⟨arr, e, (hk b rfl).trans h1, aM.le hle _ _ h2, fun i v hv => hle.fz _ _ _ (h3 i v hv)⟩
 | row m rows s froz => cases l with
  | box b => exact h.elim
  | row ob st sz u =>
   refine ⟨h.1, h.2.1, ?_⟩
   have h2 := h.2.2
   cases ob with
   | none => exact h2
   | some b =>
    obtain ⟨arr, e, cap, h3⟩ := h2
    exact ⟨arr, e, cap, h3.val, (hk b rfl).trans h3.cells, h3.size, h3.fits, h3.elems.le hle, fun i v hv => h3.fz i v (hf b rfl i v hv)⟩
 | map es => cases l with
  | row => exact h.elim
  | box b =>
   obtain ⟨ents, clock, h1, h2⟩ := h
   exact ⟨ents, clock, (hk b rfl).trans h1, h2.le hle⟩
 | loop r => cases l with
  | row => exact h.elim
  | box b =>
   obtain ⟨x, h1, h2⟩ := h
   exact ⟨x, (hk b rfl).trans h1, h2.le hle⟩
 | jl g cs => cases l with
  | box => exact h.elim
  | row ob st sz u =>
   obtain ⟨h0, h3, arr, e, f, h4, h1, h2⟩ := h
   subst h0
   exact ⟨rfl, h3, arr, e, f, h4, (hk g rfl).trans h1, aM.le hle _ _ h2⟩
theorem dG.lt {c : Ctx} {o : aV} {l : Loc} {w : World} (h : dG c o l w) {b : Nat} (hb : fX l = some b) : b < w.heap.size := by
 have : ∃ x, w.heap[b]? = some x := by
  cases o with
  | cells cs => cases l with
   | row => exact h.elim
   | box b => cases hb; obtain ⟨arr, e, h1, _⟩ := h; exact ⟨_, h1⟩
  | still cs => cases l with
   | row => exact h.elim
   | box b => cases hb; obtain ⟨arr, e, h1, _⟩ := h; exact ⟨_, h1⟩
  | row m rows s froz => cases l with
   | box b => exact h.elim
   | row ob st sz u => cases hb; obtain ⟨_, _, arr, e, cap, h1⟩ := h; exact ⟨_, h1.cells⟩
  | map es => cases l with
   | row => exact h.elim
   | box b => cases hb; obtain ⟨ents, clock, h1, _⟩ := h; exact ⟨_, h1⟩
  | loop r => cases l with
   | row => exact h.elim
   | box b => cases hb; obtain ⟨x, h1, _⟩ := h; exact ⟨_, h1⟩
  | jl g cs => cases l with
   | box => exact h.elim
   | row ob st sz u => obtain ⟨h0, _, arr, e, f, _, h1, _⟩ := h; subst h0; cases hb; exact ⟨_, h1⟩
 obtain ⟨x, hx⟩ := this
 exact (Array.getElem?_eq_some_iff.1 hx).1
theorem eD.lt {c : Ctx} {H : eT} {w : World} (h : Rep c H w) {r : Nat} (k : eD c H r) : r < w.heap.size := by
 obtain ⟨n, o, l, h1, h2, h3⟩ := k
 obtain ⟨l', h4, h5⟩ := h.cW n o h1
 rw [h2] at h4
 cases h4
 exact h5.lt h3
theorem yI {c : Ctx} {H : eT} {w : World} (h : Rep c H w) {b i : Nat} {v : Value} (k : c.fz b i = some v) : b < w.heap.size := by
 obtain ⟨arr, e, f, h1, _⟩ := h.fz b i v k
 exact (Array.getElem?_eq_some_iff.1 h1).1
theorem Rep.heap {c : Ctx} {H : eT} {w w' : World} (h : Rep c H w) (e : w'.heap = w.heap) : Rep c H w' :=
 ⟨fun k o hk => let ⟨l, h1, h2⟩ := h.cW k o hk; ⟨l, h1, h2.pk (Le.refl c) (fun b _ => by rw [e]) fun _ _ _ _ hv => hv⟩, h.sep, fun b i v hv => by rw [e]; exact h.fz b i v hv⟩
theorem Rep.draw {c : Ctx} {H : eT} {w : World} (h : Rep c H w) (n : Nat) : Rep c H { w with drawn := n } := h.heap rfl
theorem Step.draw {lo hi : Nat} {c c' : Ctx} {H H' : eT} {w w' : World} (h : Step lo hi c H w c' H' w') (n : Nat) : Step lo hi c H w c' H' { w' with drawn := n } :=
 ⟨h.le, h.off, h.hid, h.os, h.tape, h.output, h.size, h.kept, h.owns, h.nfz⟩
theorem Step.drawn (lo : Nat) (c : Ctx) (H : eT) (w : World) (n : Nat) : Step lo lo c H w c H { w with drawn := n } := (Step.refl lo c H w).draw n
theorem kT (st : St) (o : aV) (m : Nat) : ba (st.fresh o).heap m = if m = st.next then some o else ba st.heap m := by
 show ba ((st.next, o) :: st.heap) m = _
 rw [bI]
 by_cases h : m = st.next
 ·rw [if_pos h, if_pos h.symm]
 ·rw [if_neg h, if_neg (Ne.symm h)]
theorem cO (st : St) (o : aV) : Sta st (st.fresh o) := by
 refine ⟨rfl, rfl, Nat.le_succ _, fun n hn => hn, fun n h7 _ _ => by rw [kT, if_neg (by omega)], fun hw n hn => ?_, fun n hn => .inl hn⟩
 have hn : st.next + 1 ≤ n := hn
 rw [kT, if_neg (by omega)]
 exact hw n (by omega)
theorem fq (st : St) (o : aV) {m : Nat} (h : m ≠ st.next) : (st.fresh o).look m = st.look m := by
 rw [look_eq, look_eq, kT, if_neg h]; rfl
def fO (c : Ctx) (k : Nat) (l : Loc) : Ctx := ⟨fun n => if n = k then some l else c.ρ n, c.fz⟩
theorem b8 (c : Ctx) (k : Nat) (l : Loc) : (fO c k l).ρ k = some l := by simp [fO]
theorem eR (c : Ctx) {k n : Nat} (l : Loc) (h : n ≠ k) : (fO c k l).ρ n = c.ρ n := by simp [fO, h]
theorem ng {c : Ctx} {k : Nat} (l : Loc) (h : c.ρ k = none) : Le c (fO c k l) := ⟨fun n x e => by
 by_cases e2 : n = k
 ·subst e2; rw [h] at e; cases e
 ·exact ⟨x, by rw [eR c l e2]; exact e, cS.refl x⟩, fun _ _ _ h => h⟩
structure cE (w w' : World) : Prop where
 os : w'.os = w.os
 tape : w'.tape = w.tape
 output : w'.output = w.output
 size : w.heap.size ≤ w'.heap.size
 old : ∀ r, r < w.heap.size → w'.heap[r]? = w.heap[r]?
theorem cE.refl (w : World) : cE w w := ⟨rfl, rfl, rfl, Nat.le_refl _, fun _ _ => rfl⟩
theorem cE.alloc (w : World) (o : Obj) : cE w (w.alloc o) := ⟨rfl, rfl, rfl, by simp, fun r hr => by show (w.heap.push o)[r]? = _; rw [Array.getElem?_push, if_neg (by omega)]⟩
theorem cE.drew (w : World) (n : Nat) : cE w { w with drawn := n } := ⟨rfl, rfl, rfl, Nat.le_refl _, fun _ _ => rfl⟩
theorem cE.trans {a b c : World} (h : cE a b) (k : cE b c) : cE a c :=
 ⟨k.os.trans h.os, k.tape.trans h.tape, k.output.trans h.output, Nat.le_trans h.size k.size, fun r hr => (k.old r (Nat.lt_of_lt_of_le hr h.size)).trans (h.old r hr)⟩
theorem fm {st : St} {o : aV} {c : Ctx} {w w' : World} (hr : Rep c st.look w) (hf : c.ρ st.next = none) (hwf : Wf st) {l : Loc} (g : cE w w') (hl : ∀ b, fX l = some b → w.heap.size ≤ b) (ho : dG (fO c st.next l) o l w') :
  Rep (fO c st.next l) (st.fresh o).look w' ∧ Step st.next (st.fresh o).next c st.look w (fO c st.next l) (st.fresh o).look w' := by
 have hle := ng l hf
 have new : ∀ o', (st.fresh o).look st.next = some o' → o' = o := fun o' hm => by
  have := (cm hm).1
  rw [kT, if_pos rfl] at this
  exact (Option.some.inj this).symm
 have nn : ∀ m o', st.look m = some o' → m ≠ st.next := fun m o' hm e => by
  have := (cm hm).1
  rw [e, hwf.none _ (Nat.le_refl _)] at this
  cases this
 refine ⟨⟨fun m o' hm => ?_, fun m j o1 o2 l1 l2 r hm hj hne h1 h2 hb1 hb2 => ?_, fun b i v hv => ?_⟩, ⟨hle, fun k hk e => ?_, fun k l' e e' => ?_, g.os, g.tape, g.output, g.size, fun r hr' _ => g.old r hr', fun r ⟨m, o', l', hm, h1, h2⟩ => ?_, fun _ _ _ h => .inl h⟩⟩
 ·by_cases e : m = st.next
  ·subst e
   cases new _ hm
   exact ⟨l, b8 _ _ _, ho⟩
  ·rw [fq st o e] at hm
   obtain ⟨l', h7, h8⟩ := hr.cW m o' hm
   exact ⟨l', by rw [eR c l e]; exact h7, h8.pk hle (fun b hb => g.old b (h8.lt hb)) fun _ _ _ _ hv => hv⟩
 ·by_cases e : m = st.next
  ·subst e
   rw [b8] at h1
   cases h1
   rw [fq st o (Ne.symm hne)] at hj
   rw [eR c l (Ne.symm hne)] at h2
   obtain ⟨l3, h7, h8⟩ := hr.cW j o2 hj
   rw [h2] at h7
   cases h7
   have := h8.lt hb2
   have := hl r hb1
   omega
  ·rw [fq st o e] at hm
   rw [eR c l e] at h1
   by_cases e2 : j = st.next
   ·subst e2
    rw [b8] at h2
    cases h2
    obtain ⟨l3, h7, h8⟩ := hr.cW m o1 hm
    rw [h1] at h7
    cases h7
    have := h8.lt hb1
    have := hl r hb2
    omega
   ·rw [fq st o e2] at hj
    rw [eR c l e2] at h2
    exact hr.sep m j o1 o2 l1 l2 r hm hj hne h1 h2 hb1 hb2
 ·rw [g.old b (yI hr hv)]
  exact hr.fz b i v hv
 ·rw [eR c l (by show k ≠ st.next; have : (st.fresh o).next = st.next + 1 := rfl; omega)]
  exact e
 ·have hne : k ≠ st.next := fun e2 => by subst e2; rw [hf] at e'; cases e'
  exact ⟨by rw [fq st o hne]; exact e, by rw [eR c l hne]; exact e'⟩
 ·by_cases e : m = st.next
  ·subst e
   rw [b8] at h1
   cases h1
   exact .inr (hl r h2)
  ·rw [fq st o e] at hm
   rw [eR c l e] at h1
   exact .inl ⟨m, o', l', hm, h1, h2⟩
theorem kG (st : St) (k : Nat) (o : aV) (m : Nat) : ba (st.put k o).heap m = if m = k then some o else ba st.heap m := zy k o m st.heap
theorem mW (st : St) (k : Nat) (m : Nat) : ba (st.drop k).heap m = if m = k then none else ba st.heap m := sC k m st.heap
theorem mC (st : St) (k : Nat) : (∀ n ∈ st.log, n ∈ st.note k) ∧ (k < st.mark → k ∈ st.note k) := by
 unfold St.note
 cases hb : Nat.ble (Nat.succ k) st.mark with
 | true => exact ⟨fun n hn => List.mem_cons_of_mem _ hn, fun _ => List.mem_cons_self⟩
 | false => exact ⟨fun n hn => hn, fun h => by have := lh hb; omega⟩
theorem yh {st : St} {k n : Nat} (h : n ∈ st.note k) : n ∈ st.log ∨ (n = k ∧ n < st.mark) := by
 unfold St.note at h
 cases hb : Nat.ble (Nat.succ k) st.mark with
 | true =>
  rw [hb] at h
  rcases List.mem_cons.1 h with h | h
  ·exact .inr ⟨h, by rw [h]; exact cr hb⟩
  ·exact .inl h
 | false => rw [hb] at h; exact .inl h
theorem cL {st : St} {k : Nat} (o : aV) {o' : aV} (hlk : st.look k = some o') : Sta st (st.put k o) := by
 have hk := (cm hlk).1
 refine ⟨rfl, rfl, Nat.le_refl _, (mC st k).1, fun n _ hm hn => ?_, fun hw n hn => ?_, fun n hn => ?_⟩
 ·rw [kG, if_neg (fun e => by subst e; exact hn ((mC st n).2 hm))]
 ·rw [kG, if_neg (fun e => by subst e; rw [hw n hn] at hk; cases hk)]
  exact hw n hn
 ·exact (yh hn).imp id fun e => ⟨by rw [e.1]; exact (cm hlk).2, e.2⟩
theorem drop_sta {st : St} {k : Nat} {o' : aV} (hlk : st.look k = some o') : Sta st (st.drop k) := by
 refine ⟨rfl, rfl, Nat.le_refl _, (mC st k).1, fun n _ hm hn => ?_, fun hw n hn => ?_, fun n hn => ?_⟩
 ·rw [mW, if_neg (fun e => by subst e; exact hn ((mC st n).2 hm))]
 ·rw [mW]; split
  ·rfl
  ·exact hw n hn
 ·exact (yh hn).imp id fun e => ⟨by rw [e.1]; exact (cm hlk).2, e.2⟩
theorem put_look {st : St} {k : Nat} (o : aV) {o' : aV} (hlk : st.look k = some o') : (st.put k o).look k = some o := by
 rw [look_eq, kG, if_pos rfl, show (st.put k o).ban = st.ban from rfl, (cm hlk).2]; rfl
theorem ew {st : St} {k m : Nat} (o : aV) (h : m ≠ k) : (st.put k o).look m = st.look m := by
 rw [look_eq, look_eq, kG, if_neg h]; rfl
structure But (b : Option Nat) (w w' : World) : Prop where
 os : w'.os = w.os
 tape : w'.tape = w.tape
 output : w'.output = w.output
 size : w.heap.size ≤ w'.heap.size
 old : ∀ r, r < w.heap.size → b ≠ some r → w'.heap[r]? = w.heap[r]?
theorem cE.but {w w' : World} (g : cE w w') (b : Option Nat) : But b w w' := ⟨g.os, g.tape, g.output, g.size, fun r hr _ => g.old r hr⟩
theorem dC {st : St} {k : Nat} {o o' : aV} {c c' : Ctx} {w w' : World} {l l' : Loc} (hr : Rep c st.look w) (hk : st.look k = some o) (hl : c.ρ k = some l) (hl' : c'.ρ k = some l') (hll : cS l l') (hρ : ∀ n, n ≠ k → c'.ρ n = c.ρ n)
  (hfz : ∀ b i v, c.fz b i = some v → c'.fz b i = some v) (hnew : ∀ b i v, c'.fz b i = some v → c.fz b i = some v ∨ fX l = some b) (hblk : ∀ r, fX l' = some r → fX l = some r ∨ w.heap.size ≤ r) (hw : But (fX l) w w')
  (hok : ∀ b i v, fX l = some b → c'.fz b i = some v → ∃ arr e f, w'.heap[b]? = some (.cells arr e f) ∧ arr[i]? = some v) (ho : dG c' o' l' w') :
  Rep c' (st.put k o').look w' ∧ Step st.next (st.put k o').next c st.look w c' (st.put k o').look w' := by
 have hle : Le c c' := ⟨fun n x e => by
  by_cases e2 : n = k
  ·subst e2; rw [hl] at e; cases e; exact ⟨l', hl', hll⟩
  ·exact ⟨x, by rw [hρ n e2]; exact e, cS.refl x⟩, hfz⟩
 obtain ⟨l0, hl0, hat⟩ := hr.cW k o hk
 rw [hl] at hl0
 cases hl0
 have other : ∀ m om lm, m ≠ k → st.look m = some om → c.ρ m = some lm → ∀ b, fX lm = some b → fX l ≠ some b := fun m om lm hm h1 h2 b hb e => hr.sep k m o om l lm b hk h1 (Ne.symm hm) hl h2 e hb
 refine ⟨⟨fun m om hm => ?_, fun m j o1 o2 l1 l2 r hm hj hne h1 h2 hb1 hb2 => ?_, fun b i v hv => ?_⟩, ⟨hle, fun n _ e => ?_, fun n x e e' => ?_, hw.os, hw.tape, hw.output, hw.size, fun r hr' hn => ?_, fun r ⟨m, om, lm, hm, h1, h2⟩ => ?_, fun b i v hv => ?_⟩⟩
 ·by_cases e : m = k
  ·subst e
   rw [put_look o' hk] at hm
   cases hm
   exact ⟨l', hl', ho⟩
  ·rw [ew o' e] at hm
   obtain ⟨lm, h7, h8⟩ := hr.cW m om hm
   refine ⟨lm, by rw [hρ m e]; exact h7, h8.pk hle (fun b hb => hw.old b (h8.lt hb) (other m om lm e hm h7 b hb)) fun b hb i v hv => ?_⟩
   rcases hnew b i v hv with h | h
   ·exact h
   ·exact absurd h (other m om lm e hm h7 b hb)
 ·have one : ∀ m om lm r, m ≠ k → (st.put k o').look m = some om → c'.ρ m = some lm → fX lm = some r → fX l' ≠ some r := fun m om lm r hm h1 h2 hb e => by
   rw [ew o' hm] at h1
   rw [hρ m hm] at h2
   rcases hblk r e with h | h
   ·exact other m om lm hm h1 h2 r hb h
   ·obtain ⟨l3, h7, h8⟩ := hr.cW m om h1
    rw [h2] at h7
    cases h7
    have := h8.lt hb
    omega
  by_cases e : m = k
  ·subst e
   rw [hl'] at h1
   cases h1
   exact one j o2 l2 r (Ne.symm hne) hj h2 hb2 hb1
  ·by_cases e2 : j = k
   ·subst e2
    rw [hl'] at h2
    cases h2
    exact one m o1 l1 r e hm h1 hb1 hb2
   ·rw [ew o' e] at hm
    rw [ew o' e2] at hj
    rw [hρ m e] at h1
    rw [hρ j e2] at h2
    exact hr.sep m j o1 o2 l1 l2 r hm hj hne h1 h2 hb1 hb2
 ·rcases hnew b i v hv with h | h
  ·by_cases hb : fX l = some b
   ·exact hok b i v hb hv
   ·rw [hw.old b (yI hr h) hb]
    exact hr.fz b i v h
  ·exact hok b i v h hv
 ·by_cases e2 : n = k
  ·subst e2; rw [hl] at e; cases e
  ·rw [hρ n e2]; exact e
 ·have hne : n ≠ k := fun e2 => by subst e2; rw [hk] at e; cases e
  exact ⟨by rw [ew o' hne]; exact e, by rw [hρ n hne]; exact e'⟩
 ·exact hw.old r hr' fun e => hn ⟨k, o, l, hk, hl, e⟩
 ·by_cases e : m = k
  ·subst e
   rw [hl'] at h1
   cases h1
   exact (hblk r h2).imp (fun h => ⟨m, o, l, hk, hl, h⟩) id
  ·rw [ew o' e] at hm
   rw [hρ m e] at h1
   exact .inl ⟨m, om, lm, hm, h1, h2⟩
 ·exact (hnew b i v hv).imp id fun h => .inl ⟨k, o, l, hk, hl, h⟩
theorem drop_rep {st : St} {k : Nat} {c : Ctx} {w : World} (hr : Rep c st.look w) : Rep c (st.drop k).look w ∧ Step st.next (st.drop k).next c st.look w c (st.drop k).look w := by
 have old : ∀ m o, (st.drop k).look m = some o → m ≠ k ∧ st.look m = some o := fun m o hm => by
  rw [look_eq, mW, show (st.drop k).ban = st.ban from rfl] at hm
  split at hm
  ·cases hm
  ·rename_i hb
   split at hm
   ·cases hm
   ·rename_i hne; exact ⟨hne, by rw [look_eq, if_neg hb]; exact hm⟩
 refine ⟨⟨fun m o hm => hr.cW m o (old m o hm).2, fun m j o1 o2 l1 l2 r hm hj => hr.sep m j o1 o2 l1 l2 r (old _ _ hm).2 (old _ _ hj).2, hr.fz⟩,
  ⟨Le.refl c, fun _ _ h => h, fun n l e e' => ⟨?_, e'⟩, rfl, rfl, rfl, Nat.le_refl _, fun _ _ _ => rfl, fun r ⟨m, o, l, hm, h1, h2⟩ => .inl ⟨m, o, l, (old _ _ hm).2, h1, h2⟩, fun _ _ _ h => .inl h⟩⟩
 cases h : (st.drop k).look n with
 | none => rfl
 | some o => rw [(old n o h).2] at e; cases e
end Sv
namespace Sv
open Go Go.RowKit
inductive T (α : Type) where
 | nil
 | node (v : Option α) (l r : T α)
noncomputable def T.get {α : Type} (t : T α) : Nat → Option α :=
 T.rec (motive := fun _ => Nat → Option α) (fun _ => none)
  (fun v _ _ gl gr n => Bool.rec (Bool.rec (gr (Nat.sub (Nat.div n 2) 1)) (gl (Nat.div n 2)) (Nat.beq (Nat.mod n 2) 1)) v (Nat.beq n 0)) t
structure Env where
 types : T TypeInfo
 funcs : T Func
 eqs : List TypeId
structure a7 (P : Program) (E : Env) : Prop where
 types : ∀ t i, E.types.get t = some i → P.info? t = some i
 funcs : ∀ f fn, E.funcs.get f = some fn → P.funcs[f]? = some fn ∧ (fn.name == "runtime.NumGoroutine") = false
 mixed : P.follows .mixedOrders = true
 eqs : ∀ t ∈ E.eqs, P.stoodInHeld t = false ∧ P.eqGuardType P.depth t = false
noncomputable def bnd {α β : Type} (x : Option α) (f : α → Option β) : Option β := Option.rec (motive := fun _ => Option β) none f x
noncomputable def whn {α : Type} (b : Bool) (x : Option α) : Option α := Bool.rec (motive := fun _ => Option α) none x b
theorem aU {α β : Type} {x : Option α} {f : α → Option β} {b : β} : bnd x f = some b ↔ ∃ a, x = some a ∧ f a = some b := by
 cases x with
 | none => exact ⟨fun h => (by cases h), fun ⟨_, h, _⟩ => (by cases h)⟩
 | some a => exact ⟨fun h => ⟨a, rfl, h⟩, fun ⟨_, h, h2⟩ => (by cases h; exact h2)⟩
theorem dJ {α : Type} {b : Bool} {x : Option α} {a : α} : whn b x = some a ↔ b = true ∧ x = some a := by
 cases b with
 | false => exact ⟨fun h => (by cases h), fun ⟨h, _⟩ => (by cases h)⟩
 | true => exact ⟨fun h => ⟨rfl, h⟩, fun h => h.2⟩
section
variable (E : Env)
noncomputable def mg (i : TypeInfo) : Option TypeDesc :=
 match i.desc with
 | .named _ u => bnd (E.types.get u) fun j => some j.desc
 | d => some d
noncomputable def under (t : TypeId) : Option TypeDesc := bnd (E.types.get t) fun i => mg E i
noncomputable def cj (t : TypeId) : Option Nat := bnd (E.types.get t) fun i => some i.size
noncomputable def jX (t : TypeId) : Option Nat := bnd (E.types.get t) fun i => some i.bytes
noncomputable def isAggD : TypeDesc → Bool
 | .struct _ => true
 | .array _ _ => true
 | _ => false
noncomputable def sliceD : TypeDesc → Option TypeId
 | .slice e => some e
 | _ => none
noncomputable def structD : TypeDesc → Option (List Field)
 | .struct fs => some fs.toList
 | _ => none
noncomputable def mapD : TypeDesc → Option (TypeId × TypeId)
 | .map k e => some (k, e)
 | _ => none
noncomputable def aggT (t : TypeId) : Option Bool := bnd (under E t) fun d => some (isAggD d)
noncomputable def cJ (t : TypeId) : Option TypeId := bnd (under E t) sliceD
noncomputable def n5 (t : TypeId) (f : Nat) : Option Field := bnd (bnd (under E t) structD) fun fs => fs[f]?
end
section
variable {P : Program} {E : Env} (hE : a7 P E)
include hE
theorem bE {t : TypeId} {n : Nat} (h : cj E t = some n) : ∃ i, P.info? t = some i ∧ i.size = n ∧ ∀ w, (Go.sizeOf t).run P w = .ok n w := by
 unfold cj at h
 rw [aU] at h
 obtain ⟨i, h1, h2⟩ := h
 cases h2
 have := hE.types t i h1
 exact ⟨i, this, rfl, fun w => by simp [Go.sizeOf, typeInfo, this]⟩
theorem fM {t : TypeId} {n : Nat} (h : jX E t = some n) : ∃ i, P.info? t = some i ∧ i.bytes = n := by
 unfold jX at h
 rw [aU] at h
 obtain ⟨i, h1, h2⟩ := h
 cases h2
 exact ⟨i, hE.types t i h1, rfl⟩
theorem bu {t : TypeId} {d : TypeDesc} (h : under E t = some d) : P.underlying t = some d := by
 unfold under at h
 rw [aU] at h
 obtain ⟨i, h1, h2⟩ := h
 have hi := hE.types t i h1
 unfold mg at h2
 unfold Program.underlying
 rw [hi]
 obtain ⟨d0, r⟩ := i
 cases d0 <;> simp only at h2 ⊢ <;> try exact h2
 rw [aU] at h2
 obtain ⟨j, h3, h4⟩ := h2
 rw [hE.types _ j h3]
 exact h4
theorem uR {t : TypeId} {b : Bool} (h : aggT E t = some b) (w : World) : (isAgg t).run P w = .ok b w := by
 unfold aggT at h
 rw [aU] at h
 obtain ⟨d, h1, h2⟩ := h
 cases h2
 have := bu hE h1
 simp only [isAgg, Sem.run_bind, run_underlying this, Result.andThen_ok]
 cases d <;> rfl
theorem bP {t e : TypeId} (h : cJ E t = some e) : P.underlying t = some (.slice e) := by
 unfold cJ at h
 rw [aU] at h
 obtain ⟨d, h1, h2⟩ := h
 unfold sliceD at h2
 split at h2
 ·cases h2; exact bu hE h1
 ·cases h2
theorem oT {t : TypeId} {f : Nat} {fd : Field} (h : n5 E t f = some fd) : ∃ fs, P.underlying t = some (.struct fs) ∧ fs[f]? = some fd := by
 unfold n5 at h
 rw [aU] at h
 obtain ⟨l, h1, h2⟩ := h
 rw [aU] at h1
 obtain ⟨d, h3, h4⟩ := h1
 unfold structD at h4
 split at h4
 ·cases h4
  exact ⟨_, bu hE h3, by simpa using h2⟩
 ·cases h4
theorem tV {t : TypeId} {p : TypeId × TypeId} (h : bnd (under E t) mapD = some p) : P.underlying t = some (.map p.1 p.2) := by
 rw [aU] at h
 obtain ⟨d, h1, h2⟩ := h
 unfold mapD at h2
 split at h2
 ·cases h2; exact bu hE h1
 ·cases h2
end
noncomputable def ofV : Nat → Value → Option SVal
  | 0, _ => none
  | d + 1, v => match v with
    | .bool b => some (.bool b)
    | .int k n => some (.int k n)
    | .string s => some (.str s.data.toList)
    | .pointer none => some .nilPtr
    | .slice none 0 0 => some .az
    | .map none => some .dy
    | .func (.func f) ⟨[]⟩ ⟨[]⟩ => some (.func (.func f) [] [])
    | .nilFunc => some .eE
    | .nilIface => some .nilIface
    | .agg ⟨a⟩ => (vy d a).map .agg
    | .tuple ⟨a⟩ => (vy d a).map .tup
    | _ => none
 where
  vy (d : Nat) : List Value → Option (List SVal)
    | [] => some []
    | v :: r => match ofV d v with
      | none => none
      | some s => match vy d r with
        | none => none
        | some l => some (s :: l)
theorem ofV_ok : ∀ (d : Nat), (∀ (v : Value) (s : SVal), ofV d v = some s → ∀ c, Den c s v) ∧ (∀ (l : List Value) (ss : List SVal), ofV.vy d l = some ss → ∀ c, aM c ss l)
 | 0 => by
  refine ⟨fun v s h => by simp [ofV] at h, fun l => ?_⟩
  cases l with
  | nil => intro ss h c; simp [ofV.vy] at h; subst h; rfl
  | cons v r => intro ss h; simp [ofV.vy, ofV] at h
 | d + 1 => by
  obtain ⟨ih1, ih2⟩ := ofV_ok d
  have h1 : ∀ (v : Value) (s : SVal), ofV (d + 1) v = some s → ∀ c, Den c s v := by
   intro v s h c
   unfold ofV at h
   split at h <;> first
    | (simp only [Option.some.injEq] at h; subst h; first | exact rfl | exact ⟨[], [], rfl, rfl, rfl⟩)
    | (simp only [Option.map_eq_some_iff] at h; obtain ⟨l, h1, rfl⟩ := h; exact ⟨_, ih2 _ _ h1 c, rfl⟩)
    | cases h
  refine ⟨h1, ?_⟩
  intro l
  induction l with
  | nil => intro ss h c; simp [ofV.vy] at h; subst h; rfl
  | cons v r ih =>
   intro ss h c
   unfold ofV.vy at h
   cases hv : ofV (d + 1) v with
   | none => rw [hv] at h; cases h
   | some s =>
    rw [hv] at h
    cases hr : ofV.vy (d + 1) r with
    | none => rw [hr] at h; cases h
    | some l => rw [hr] at h; cases h; exact ⟨_, _, h1 v s hv c, ih l hr c, rfl⟩
theorem vz {d : Nat} {v : Value} {s : SVal} (h : ofV d v = some s) (c : Ctx) : Den c s v := (ofV_ok d).1 v s h c
noncomputable def fT (E : Env) (t : TypeId) : Option SVal := bnd (E.types.get t) fun i => bnd i.zero fun v => ofV 4 v
theorem dv {P : Program} {E : Env} (hE : a7 P E) {t : TypeId} {s : SVal} (h : fT E t = some s) : ∃ i z, P.info? t = some i ∧ i.zero = some z ∧ (∀ c, Den c s z) ∧ ∀ w, (zeroValue t).run P w = .ok z w := by
 unfold fT at h
 rw [aU] at h
 obtain ⟨i, h1, h2⟩ := h
 rw [aU] at h2
 obtain ⟨z, h3, h4⟩ := h2
 have := hE.types t i h1
 exact ⟨i, z, this, h3, vz h4, fun w => by simp [zeroValue, typeInfo, this, h3]⟩
theorem eS (b o n : Nat) : Addr.add ⟨b, o, none⟩ n = ⟨b, o + n, none⟩ := by
 unfold Addr.add
 split
 ·rename_i h; subst h; rfl
 ·rfl
inductive iZ (st : St) : SVal → List SVal → Prop where
 | box {k off : Nat} {l : List SVal} : st.look k = some (.cells l) → iZ st (.ptr k off) (l.drop off)
 | still {k off : Nat} {l : List SVal} : st.look k = some (.still l) → iZ st (.ptr k off) (l.drop off)
 | row {k s i off : Nat} {m : Nat} {rows : List (List SVal)} {row : List SVal} {z : Bool} : st.look k = some (.row m rows s z) → rows[i]? = some row → iZ st (.ec k s i off) (row.drop off)
 | elem {row : List SVal} {off : Nat} : iZ st (.bA row off) (row.drop off)
theorem box_at {st : St} {c : Ctx} {w : World} (hr : Rep c st.look w) {k b : Nat} {cs : List SVal} (h : st.look k = some (.cells cs)) (hb : c.ρ k = some (.box b)) :
  ∃ arr e, w.heap[b]? = some (.cells arr e (0, 0)) ∧ aM c cs arr.toList ∧ ∀ i v, c.fz b i ≠ some v := by
 obtain ⟨l', h1, h2⟩ := hr.cW k _ h
 rw [hb] at h1
 cases h1
 exact h2
theorem qD {st : St} {c : Ctx} {w : World} (hr : Rep c st.look w) {k s m : Nat} {rows : List (List SVal)} {z : Bool} (h : st.look k = some (.row m rows s z)) {ob : Option Nat} {s' sz : Nat} {u : Value} (hb : c.ρ k = some (.row ob s' sz u)) :
  s' = s ∧ sz = m ∧ ((ob = none ∧ rows = [] ∧ ∃ a, u = .slice a 0 0) ∨ ∃ b arr e cap, ob = some b ∧ RowIn c rows z b sz u w arr e cap) := by
 obtain ⟨l', h1, h2⟩ := hr.cW k _ h
 rw [hb] at h1
 cases h1
 refine ⟨h2.1, h2.2.1, ?_⟩
 have h3 := h2.2.2
 cases ob with
 | none => exact .inl ⟨rfl, h3⟩
 | some b => obtain ⟨arr, e, cap, h3⟩ := h3; exact .inr ⟨b, arr, e, cap, rfl, h3⟩
theorem iZ.spec {st : St} {c : Ctx} {w : World} (hr : Rep c st.look w) {p : SVal} {l : List SVal} (h : iZ st p l) {v : Value} (hd : Den c p v) :
  ∃ b o, v = .pointer (some ⟨b, o, none⟩) ∧ ∀ j s, l[j]? = some s → ∃ u, w.cell? ⟨b, o + j, none⟩ = some u ∧ Den c s u := by
 cases h with
 | box h1 =>
  rename_i k off cs
  obtain ⟨b, h3, rfl⟩ := hd
  obtain ⟨arr, e, h5, h6, h7⟩ := box_at hr h1 h3
  refine ⟨b, off, rfl, fun j s hs => ?_⟩
  rw [List.getElem?_drop] at hs
  obtain ⟨u, hu, hd⟩ := h6.get hs
  exact ⟨u, by simpa [World.cell?, h5] using hu, hd⟩
 | still h1 =>
  rename_i k off cs
  obtain ⟨b, h3, rfl⟩ := hd
  obtain ⟨l', h5, h6⟩ := hr.cW _ _ h1
  rw [h3] at h5
  cases h5
  obtain ⟨arr, e, h5, h6, h7⟩ := h6
  refine ⟨b, off, rfl, fun j s hs => ?_⟩
  rw [List.getElem?_drop] at hs
  obtain ⟨u, hu, hd⟩ := h6.get hs
  exact ⟨u, by simpa [World.cell?, h5] using hu, hd⟩
 | row h1 h3 =>
  rename_i k s i off m rows row z
  obtain ⟨_, ob, st', sz, u, h5, h6, h7⟩ := hd
  obtain ⟨rfl, rfl, h8 | ⟨b, arr, e, cap, rfl, h9⟩⟩ := qD hr h1 h5
  ·obtain ⟨rfl, rfl, _⟩ := h8
   simp at h3
  ·obtain ⟨r, e1, rfl⟩ := h7 rfl
   cases e1
   obtain ⟨h10, h11⟩ := h9.elems i row h3
   refine ⟨b, _, rfl, fun j t ht => ?_⟩
   rw [List.getElem?_drop] at ht
   obtain ⟨v, h12, _, h13⟩ := h11 _ t ht
   exact ⟨v, by simp only [World.cell?, h9.cells]; rw [← h12]; simp [Nat.add_assoc], h13⟩
 | elem =>
  rename_i row off
  obtain ⟨b, base, rfl, h1⟩ := hd
  refine ⟨b, _, rfl, fun j s hs => ?_⟩
  rw [List.getElem?_drop] at hs
  obtain ⟨u, h2, _, h3⟩ := h1.get hs
  obtain ⟨arr, e, f, h4, h5⟩ := hr.fz _ _ _ h2
  exact ⟨u, by simp only [World.cell?, h4]; rw [← h5]; simp [Nat.add_assoc], h3⟩
theorem cells_run {P : Program} {c : Ctx} {w : World} {b o : Nat} {l : List SVal} (h : ∀ j s, l[j]? = some s → ∃ u, w.cell? ⟨b, o + j, none⟩ = some u ∧ Den c s u) {n : Nat} (hn : n ≤ l.length) :
  ∃ vs, aM c (l.take n) vs ∧ vs.length = n ∧ (loadCells ⟨b, o, none⟩ n).run P w = .ok vs.toArray w := by
 have key : ∀ j, j < n → ∃ s u, l[j]? = some s ∧ w.cell? ⟨b, o + j, none⟩ = some u ∧ Den c s u := fun j hj => by
  have hj' : j < l.length := by omega
  obtain ⟨u, h1, h2⟩ := h j _ (List.getElem?_eq_getElem hj')
  exact ⟨_, u, List.getElem?_eq_getElem hj', h1, h2⟩
 have hlen : ((List.range n).map fun j => (w.cell? ⟨b, o + j, none⟩).getD undef).length = n := by simp
 refine ⟨(List.range n).map fun j => (w.cell? ⟨b, o + j, none⟩).getD undef, aM.lN (by simp [hn]) fun i s hs => ?_, by simp, ?_⟩
 ·rw [List.getElem?_take] at hs
  split at hs
  ·rename_i hi
   obtain ⟨s', u, h1, h2, h3⟩ := key i hi
   rw [h1] at hs
   cases hs
   exact ⟨u, by simp [hi, h2], h3⟩
  ·cases hs
 ·have := run_loadCells_list (P := P) w ⟨b, o, none⟩ ((List.range n).map fun j => (w.cell? ⟨b, o + j, none⟩).getD undef) fun j v hv => by
   have hj : j < n := by have := (List.getElem?_eq_some_iff.1 hv).1; simpa using this
   obtain ⟨s, u, h1, h2, h3⟩ := key j hj
   simp only [List.getElem?_map, List.getElem?_range hj, Option.map_some, h2, Option.getD_some, Option.some.injEq] at hv
   subst hv
   rw [eS]
   exact h2
  rw [hlen] at this
  exact this
noncomputable def oP (E : Env) (t : TypeId) (l : List SVal) : Option SVal :=
 bnd (aggT E t) fun b => Bool.rec (l[0]?) (bnd (cj E t) fun n => whn (Nat.ble n l.length) (some (.agg (l.take n)))) b
theorem rb {P : Program} {E : Env} (hE : a7 P E) {t : TypeId} {c : Ctx} {w : World} {b o : Nat} {l : List SVal} (h : ∀ j s, l[j]? = some s → ∃ u, w.cell? ⟨b, o + j, none⟩ = some u ∧ Den c s u) {s : SVal} (hl : oP E t l = some s) :
  ∃ v, Den c s v ∧ (loadVar t ⟨b, o, none⟩).run P w = .ok v w := by
 unfold oP at hl
 rw [aU] at hl
 obtain ⟨g, h1, h2⟩ := hl
 have ha := uR hE h1 w
 cases g with
 | false =>
  obtain ⟨u, h3, h4⟩ := h 0 s h2
  refine ⟨u, h4, ?_⟩
  rw [Nat.add_zero] at h3
  simp only [loadVar, Sem.run_bind, ha, Result.andThen_ok, Bool.false_eq_true, if_false, load, Sem.run, h3]
 | true =>
  have h2 : bnd (cj E t) (fun n => whn (Nat.ble n l.length) (some (.agg (l.take n)))) = some s := h2
  rw [aU] at h2
  obtain ⟨n, h3, h4⟩ := h2
  rw [dJ] at h4
  obtain ⟨h5, h6⟩ := h4
  cases h6
  obtain ⟨i, _, _, hs⟩ := bE hE h3
  obtain ⟨vs, h7, h8, h9⟩ := cells_run (P := P) h (cr h5)
  refine ⟨.agg vs.toArray, ⟨vs, h7, rfl⟩, ?_⟩
  simp only [loadVar, Sem.run_bind, ha, Result.andThen_ok, if_true, hs w, h9]
  rfl
noncomputable def qR (E : Env) (t : TypeId) (l : List SVal) (off : Nat) : Option SVal := oP E t (l.drop off)
theorem ff {P : Program} {E : Env} (hE : a7 P E) {t : TypeId} {c : Ctx} {l : List SVal} {vs : List Value} {off : Nat} {s : SVal} (h : qR E t l off = some s) (hd : aM c l vs) :
  ∃ v, Den c s v ∧ ∀ w, (part t vs.toArray off).run P w = .ok v w := by
 unfold qR oP at h
 rw [aU] at h
 obtain ⟨b, h1, h2⟩ := h
 have ha := uR hE h1
 cases b with
 | false =>
  have h2' : (l.drop off)[0]? = some s := h2
  rw [List.getElem?_drop] at h2'
  obtain ⟨v, h3, h4⟩ := hd.get h2'
  refine ⟨v, h4, fun w => ?_⟩
  rw [Nat.add_zero] at h3
  simp only [part, Sem.run_bind, ha w, Result.andThen_ok, Bool.false_eq_true, if_false, List.getElem?_toArray, h3]
  rfl
 | true =>
  have h2' : bnd (cj E t) (fun n => whn (Nat.ble n (l.drop off).length) (some (.agg ((l.drop off).take n)))) = some s := h2
  rw [aU] at h2'
  obtain ⟨n, h3, h4⟩ := h2'
  rw [dJ] at h4
  obtain ⟨h5, h6⟩ := h4
  cases h6
  obtain ⟨i, _, _, hs⟩ := bE hE h3
  refine ⟨.agg ((vs.drop off).take n).toArray, ⟨_, (hd.drop off).take n, rfl⟩, fun w => ?_⟩
  simp only [part, Sem.run_bind, ha w, Result.andThen_ok, if_true, hs w]
  simp
end Sv
namespace Sv
open Go
namespace T
variable {α : Type}
noncomputable def left (t : T α) : T α := T.rec (motive := fun _ => T α) .nil (fun _ l _ _ _ => l) t
noncomputable def right (t : T α) : T α := T.rec (motive := fun _ => T α) .nil (fun _ _ r _ _ => r) t
noncomputable def top (t : T α) : Option α := T.rec (motive := fun _ => Option α) none (fun v _ _ _ _ => v) t
noncomputable def mkL (v : Option α) (r : T α) (c : T α) : T α := T.rec (motive := fun _ => T α) (.node v .nil r) (fun v' l' r' _ _ => .node v (.node v' l' r') r) c
noncomputable def mkR (v : Option α) (l : T α) (c : T α) : T α := T.rec (motive := fun _ => T α) (.node v l .nil) (fun v' l' r' _ _ => .node v l (.node v' l' r')) c
noncomputable def setF (x : Option α) (d : Nat) : T α → Nat → T α :=
 Nat.rec (motive := fun _ => T α → Nat → T α) (fun t _ => t)
  (fun _ ih t n => Bool.rec (Bool.rec (mkR t.top t.left (ih t.right (Nat.sub (Nat.div n 2) 1))) (mkL t.top t.right (ih t.left (Nat.div n 2))) (Nat.beq (Nat.mod n 2) 1))
   (.node x t.left t.right) (Nat.beq n 0)) d
noncomputable def set (t : T α) (n : Nat) (x : α) : Option (T α) :=
 Bool.rec (some (setF (some x) 20 t n)) none (Nat.ble 1048575 n)
noncomputable def lay (t : T α) (i : Nat) (l : List α) : Option (T α) :=
 List.rec (motive := fun _ => T α → Nat → Option (T α)) (fun t _ => some t)
  (fun a _ ih t i => Option.rec none (fun t' => ih t' (Nat.succ i)) (t.set i a)) l t i
theorem get_nil (n : Nat) : (T.nil : T α).get n = none := rfl
theorem mR (v : Option α) (l r : T α) (n : Nat) :
  (T.node v l r).get n = if n = 0 then v else if n % 2 = 1 then l.get (n / 2) else r.get (n / 2 - 1) := by
 show @Bool.rec (fun _ => Option α) (@Bool.rec (fun _ => Option α) (r.get (Nat.sub (Nat.div n 2) 1)) (l.get (Nat.div n 2)) (Nat.beq (Nat.mod n 2) 1)) v (Nat.beq n 0) = _
 by_cases h : n = 0
 ·subst h; rfl
 ·rw [if_neg h, ma h]
  by_cases h2 : n % 2 = 1
  ·rw [if_pos h2, show Nat.beq (Nat.mod n 2) 1 = true from oj h2]; rfl
  ·rw [if_neg h2, show Nat.beq (Nat.mod n 2) 1 = false from ma h2]; rfl
theorem nZ (t : T α) (n : Nat) : t.get n = if n = 0 then t.top else if n % 2 = 1 then t.left.get (n / 2) else t.right.get (n / 2 - 1) := by
 cases t with
 | nil => simp [get_nil, top, left, right]
 | node v l r => exact mR v l r n
theorem mkL_eq (v : Option α) (r c : T α) : mkL v r c = .node v c r := by cases c <;> rfl
theorem mkR_eq (v : Option α) (l c : T α) : mkR v l c = .node v l c := by cases c <;> rfl
theorem setF_succ (x : Option α) (d : Nat) (t : T α) (n : Nat) :
  setF x (d + 1) t n = if n = 0 then .node x t.left t.right else if n % 2 = 1 then .node t.top (setF x d t.left (n / 2)) t.right else .node t.top t.left (setF x d t.right (n / 2 - 1)) := by
 show @Bool.rec (fun _ => T α) (@Bool.rec (fun _ => T α) (mkR t.top t.left (setF x d t.right (Nat.sub (Nat.div n 2) 1))) (mkL t.top t.right (setF x d t.left (Nat.div n 2))) (Nat.beq (Nat.mod n 2) 1)) (.node x t.left t.right) (Nat.beq n 0) = _
 by_cases h : n = 0
 ·subst h; rfl
 ·rw [if_neg h, ma h]
  by_cases h2 : n % 2 = 1
  ·rw [if_pos h2, show Nat.beq (Nat.mod n 2) 1 = true from oj h2]; exact mkL_eq ..
  ·rw [if_neg h2, show Nat.beq (Nat.mod n 2) 1 = false from ma h2]; exact mkR_eq ..
theorem ry (x : Option α) : ∀ (d : Nat) (t : T α) (n m : Nat), n + 2 ≤ 2 ^ d → (setF x d t n).get m = if m = n then x else t.get m
 | 0, _, n, _, h => by simp at h
 | d + 1, t, n, m, h => by
  rw [setF_succ]
  have hp : 2 ^ (d + 1) = 2 * 2 ^ d := by rw [Nat.pow_succ]; omega
  by_cases h0 : n = 0
  ·subst h0
   rw [if_pos rfl, mR, nZ t m]
   by_cases hm : m = 0 <;> simp [hm]
  ·rw [if_neg h0]
   by_cases h1 : n % 2 = 1
   ·rw [if_pos h1, mR, nZ t m]
    by_cases hm : m = 0
    ·simp [hm]; omega
    ·rw [if_neg hm, if_neg hm]
     by_cases hm1 : m % 2 = 1
     ·rw [if_pos hm1, if_pos hm1, ry x d _ _ _ (by omega)]
      by_cases e : m = n
      ·subst e; simp
      ·rw [if_neg e, if_neg (by omega)]
     ·rw [if_neg hm1, if_neg hm1, if_neg (by intro e; subst e; exact hm1 h1)]
   ·rw [if_neg h1, mR, nZ t m]
    by_cases hm : m = 0
    ·simp [hm]; omega
    ·rw [if_neg hm, if_neg hm]
     by_cases hm1 : m % 2 = 1
     ·rw [if_pos hm1, if_pos hm1, if_neg (by intro e; subst e; exact h1 hm1)]
     ·rw [if_neg hm1, if_neg hm1, ry x d _ _ _ (by omega)]
      by_cases e : m = n
      ·subst e; simp
      ·rw [if_neg e, if_neg (by omega)]
theorem dZ {t t' : T α} {n : Nat} {x : α} (h : t.set n x = some t') (m : Nat) : t'.get m = if m = n then some x else t.get m := by
 unfold set at h
 cases hb : Nat.ble 1048575 n with
 | true => rw [hb] at h; cases h
 | false =>
  rw [hb] at h
  cases h
  refine ry _ 20 t n m ?_
  have : ¬ 1048575 ≤ n := fun hl => by rw [Nat.ble_eq_true_of_le hl] at hb; cases hb
  have e : (2 : Nat) ^ 20 = 1048576 := by decide
  omega
theorem lay_nil (t : T α) (i : Nat) : t.lay i ([] : List α) = some t := rfl
theorem lay_cons (t : T α) (i : Nat) (a : α) (l : List α) : t.lay i (a :: l) = bnd (t.set i a) fun t' => t'.lay (i + 1) l := by
 rfl
theorem rm : ∀ {l : List α} {t t' : T α} {i : Nat}, t.lay i l = some t' → ∀ m, t'.get m = if i ≤ m ∧ m < i + l.length then l[m - i]? else t.get m
 | [], t, t', i, h, m => by
  rw [lay_nil] at h
  cases h
  rw [if_neg (by simp)]
 | a :: l, t, t', i, h, m => by
  rw [lay_cons, aU] at h
  obtain ⟨t1, h1, h2⟩ := h
  rw [rm h2 m]
  have h3 := dZ h1 m
  by_cases e : m = i
  ·subst e
   rw [if_neg (by omega), if_pos (by simp), h3, if_pos rfl]
   simp
  ·by_cases c : i + 1 ≤ m ∧ m < i + 1 + l.length
   ·rw [if_pos c, if_pos (by simp; omega)]
    have : m - i = (m - (i + 1)) + 1 := by omega
    rw [this]; simp
   ·rw [if_neg c, if_neg (by simp; omega), h3, if_neg e]
end T
end Sv
namespace Sv
open Go Go.RowKit
noncomputable def over (l : List SVal) (off : Nat) (v : List SVal) : List SVal :=
 match v with
 | [x] => l.set off x
 | v => l.take off ++ (v ++ l.drop (off + v.length))
theorem mA (l : List SVal) (off : Nat) (v : List SVal) (h : off + v.length ≤ l.length) : over l off v = l.take off ++ (v ++ l.drop (off + v.length)) := by
 unfold over
 split
 ·rename_i x
  simp only [List.length_singleton] at h ⊢
  rw [List.set_eq_take_append_cons_drop, if_pos (by omega)]
  rfl
 ·rfl
theorem oK (l : List SVal) (off : Nat) (v : List SVal) (h : off + v.length ≤ l.length) : (over l off v).length = l.length := by
 rw [mA l off v h]; simp; omega
theorem qS {α : Type} (l : List α) (off : Nat) (v : List α) (h : off + v.length ≤ l.length) (i : Nat) :
  (l.take off ++ (v ++ l.drop (off + v.length)))[i]? = if i < off then l[i]? else if i < off + v.length then v[i - off]? else l[i]? := by
 by_cases c1 : i < off
 ·rw [if_pos c1, List.getElem?_append_left (by simp; omega), List.getElem?_take, if_pos c1]
 ·rw [if_neg c1]
  by_cases c2 : i < off + v.length
  ·rw [if_pos c2, List.getElem?_append_right (by simp; omega), List.getElem?_append_left (by simp; omega)]
   congr 1; simp; omega
  ·rw [if_neg c2, List.getElem?_append_right (by simp; omega), List.getElem?_append_right (by simp; omega), List.getElem?_drop]
   congr 1; simp; omega
theorem setRow_but (w : World) (g : Nat) (a : Array Value) : But (some g) w (w.setRow g a) := by
 refine ⟨rfl, rfl, rfl, by simp [World.setRow], fun k hk hne => ?_⟩
 have : g ≠ k := fun e => hne (by rw [e])
 simp [World.setRow, Array.getElem?_modify, this]
noncomputable def stored (w : World) (b off : Nat) (arr : Array Value) (vs : List Value) : World := w.setRow b (arr.toList.take off ++ (vs ++ arr.toList.drop (off + vs.length))).toArray
theorem iJ {w : World} {b off : Nat} {arr : Array Value} {e : TypeId} {vs : List Value} (h : w.heap[b]? = some (.cells arr e (0, 0))) (hfit : off + vs.length ≤ arr.size) (hone : ∀ v ∈ vs, v.oneCell' = true) :
  (∀ P : Program, (storeCells ⟨b, off, none⟩ vs).run P w = .ok () (stored w b off arr vs)) ∧ But (some b) w (stored w b off arr vs) ∧
   (stored w b off arr vs).heap[b]? = some (.cells (arr.toList.take off ++ (vs ++ arr.toList.drop (off + vs.length))).toArray e (0, 0)) := by
 refine ⟨fun P => ?_, setRow_but w b _, setRow_heap w b arr _ e (0, 0) h⟩
 have := run_storeCells_at P b off e vs 0 arr w h (by omega) hone
 simp only [Nat.add_zero] at this
 rw [this]
 unfold stored
 rw [List.append_assoc]
theorem elems_set {c : Ctx} {rows : List (List SVal)} {sz : Nat} {arr arr' : Array Value} (h : dq c rows sz arr) {i off : Nat} {row : List SVal} (hi : rows[i]? = some row) {v : List SVal} {vs : List Value} (hd : aM c v vs) (hone : ∀ u ∈ vs, u.oneCell' = true) (hfit : off + v.length ≤ row.length)
  (ha : ∀ j, arr'[j]? = if j < i * sz + off then arr[j]? else if j < i * sz + off + vs.length then vs[j - (i * sz + off)]? else arr[j]?) : dq c (rows.set i (over row off v)) sz arr' := by
 have hlv := hd.length
 obtain ⟨hsz, hrow⟩ := h i row hi
 have hlt : i < rows.length := (List.getElem?_eq_some_iff.1 hi).1
 intro j r hr
 rw [List.getElem?_set] at hr
 by_cases e : i = j
 ·subst e
  rw [if_pos rfl, if_pos hlt] at hr
  cases hr
  refine ⟨by rw [oK _ _ _ hfit]; exact hsz, fun m s hs => ?_⟩
  rw [mA _ _ _ hfit, qS _ _ _ hfit] at hs
  rw [ha]
  by_cases c1 : m < off
  ·rw [if_pos c1] at hs
   rw [if_pos (by omega)]
   exact hrow m s hs
  ·rw [if_neg c1] at hs
   by_cases c2 : m < off + v.length
   ·rw [if_pos c2] at hs
    obtain ⟨u, h1, h2⟩ := hd.get hs
    rw [if_neg (by omega), if_pos (by omega)]
    exact ⟨u, by rw [← h1]; congr 1; omega, hone u (List.mem_of_getElem? h1), h2⟩
   ·rw [if_neg c2] at hs
    rw [if_neg (by omega), if_neg (by omega)]
    exact hrow m s hs
 ·rw [if_neg e] at hr
  refine ⟨(h j r hr).1, fun m s hs => ?_⟩
  obtain ⟨h3, h4⟩ := h j r hr
  have hm : m < sz := by rw [← h3]; exact (List.getElem?_eq_some_iff.1 hs).1
  rw [ha]
  rcases Nat.lt_or_gt_of_ne e with hlt' | hlt'
  ·have : (i + 1) * sz ≤ j * sz := Nat.mul_le_mul_right _ hlt'
   rw [Nat.add_mul, Nat.one_mul] at this
   rw [if_neg (by omega), if_neg (by omega)]
   exact h4 m s hs
  ·have : (j + 1) * sz ≤ i * sz := Nat.mul_le_mul_right _ hlt'
   rw [Nat.add_mul, Nat.one_mul] at this
   rw [if_pos (by omega)]
   exact h4 m s hs
inductive Put (st : St) : SVal → List SVal → St → Prop where
 | box {k off : Nat} {l v : List SVal} : st.look k = some (.cells l) → off + v.length ≤ l.length → Put st (.ptr k off) v (st.put k (.cells (over l off v)))
 | row {k s i off m : Nat} {rows : List (List SVal)} {row v : List SVal} : st.look k = some (.row m rows s false) → rows[i]? = some row → off + v.length ≤ row.length → Put st (.ec k s i off) v (st.put k (.row m (rows.set i (over row off v)) s false))
theorem Put.sta {st st' : St} {p : SVal} {v : List SVal} (h : Put st p v st') : Sta st st' := by
 cases h with
 | box h _ => exact cL _ h
 | row h _ _ => exact cL _ h
theorem Put.next {st st' : St} {p : SVal} {v : List SVal} (h : Put st p v st') : st'.next = st.next := by cases h <;> rfl
theorem Put.ok {st st' : St} {p : SVal} {v : List SVal} (h : Put st p v st') {c : Ctx} {w : World} (hr : Rep c st.look w) {u : Value} (hp : Den c p u) {vs : List Value} (hd : aM c v vs) (hf : oR v) :
  ∃ b o w', u = .pointer (some ⟨b, o, none⟩) ∧ (∀ P : Program, (storeCells ⟨b, o, none⟩ vs).run P w = .ok () w') ∧ Rep c st'.look w' ∧ Step st.next st'.next c st.look w c st'.look w' := by
 have hl := hd.length
 cases h with
 | box hk hfit =>
  rename_i k off l
  obtain ⟨b, h1, rfl⟩ := hp
  obtain ⟨l', h2, h3⟩ := hr.cW _ _ hk
  rw [h1] at h2
  cases h2
  obtain ⟨arr, e, h4, h5, h6⟩ := h3
  have hal : arr.size = l.length := by simpa using h5.length
  obtain ⟨g1, g2, g3⟩ := iJ (off := off) h4 (by omega) (iy hf hd)
  obtain ⟨r1, r2⟩ := dC (o' := .cells (over l off v)) hr hk h1 h1 (cS.refl _) (fun _ _ => rfl) (fun _ _ _ h => h) (fun _ _ _ h => .inl h) (fun r hr => .inl hr) g2 (fun b' i x hb hx => by cases hb; exact absurd hx (h6 i x)) ⟨_, e, g3, by
   rw [mA l off v hfit]
   refine aM.append.2 ⟨_, _, h5.take off, aM.append.2 ⟨_, _, hd, h5.drop _, rfl⟩, ?_⟩
   rw [hl], h6⟩
  exact ⟨b, off, _, rfl, g1, r1, r2⟩
 | row hk hi hfit =>
  rename_i k s i off m rows row
  obtain ⟨_, ob, st0, sz, u0, h1, h2, h3⟩ := hp
  obtain ⟨l', h4, h5⟩ := hr.cW _ _ hk
  rw [h1] at h4
  cases h4
  obtain ⟨rfl, rfl, h5⟩ := h5
  obtain ⟨b, rfl, rfl⟩ := h3 rfl
  obtain ⟨arr, e, cap, h5⟩ := h5
  have hlt : i < rows.length := (List.getElem?_eq_some_iff.1 hi).1
  have hrow := (h5.elems i row hi).1
  have hle : (i + 1) * sz ≤ cap * sz := Nat.mul_le_mul_right _ (by have := h5.fits; omega)
  rw [Nat.add_mul, Nat.one_mul] at hle
  have hsz := h5.size
  obtain ⟨g1, g2, g3⟩ := iJ (off := i * sz + off) h5.cells (by omega) (iy hf hd)
  have hobj : dG c (.row sz (rows.set i (over row off v)) st0 false) (.row (some b) st0 sz u0) (stored w b (i * sz + off) arr vs) := by
   refine ⟨rfl, rfl, _, e, cap, ⟨by rw [h5.val, List.length_set], g3, by simp; omega, by rw [List.length_set]; exact h5.fits, ?_, fun j x hx => ?_⟩⟩
   ·refine elems_set h5.elems hi hd (iy hf hd) hfit fun j => ?_
    rw [List.getElem?_toArray, qS _ _ _ (by simp; omega)]
    simp
   ·have := (h5.fz j x hx).1
    cases this
  obtain ⟨r1, r2⟩ := dC hr hk h1 h1 (cS.refl _) (fun _ _ => rfl) (fun _ _ _ h => h) (fun _ _ _ h => .inl h) (fun r hr => .inl hr) g2
   (fun b' j x hb hx => by cases hb; have := (h5.fz j x hx).1; cases this) hobj
  exact ⟨b, i * sz + off, _, rfl, g1, r1, r2⟩
end Sv
