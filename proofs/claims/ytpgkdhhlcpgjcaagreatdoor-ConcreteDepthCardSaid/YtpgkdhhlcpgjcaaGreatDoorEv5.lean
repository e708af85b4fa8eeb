import Derived.WalkKit
/-
  A machine that reckons calls whose input is known, on names in place of addresses.
-/
namespace Ev
open Go

/-- a row that is kept as a tree -/
inductive T (α : Type) where
  | nil
  | node (v : Option α) (l r : T α)

namespace T
variable {α : Type}
noncomputable def get (t : T α) : Nat → Option α :=
  T.rec (motive := fun _ => Nat → Option α) (fun _ => none)
    (fun v _ _ gl gr n => Bool.rec (Bool.rec (gr (Nat.sub (Nat.div n 2) 1)) (gl (Nat.div n 2)) (Nat.beq (Nat.mod n 2) 1)) v (Nat.beq n 0)) t
noncomputable def left (t : T α) : T α := T.rec (motive := fun _ => T α) .nil (fun _ l _ _ _ => l) t
noncomputable def right (t : T α) : T α := T.rec (motive := fun _ => T α) .nil (fun _ _ r _ _ => r) t
noncomputable def top (t : T α) : Option α := T.rec (motive := fun _ => Option α) none (fun v _ _ _ _ => v) t
/-- the node, its parts looked at -/
noncomputable def mkL (v : Option α) (r : T α) (c : T α) : T α := T.rec (motive := fun _ => T α) (.node v .nil r) (fun v' l' r' _ _ => .node v (.node v' l' r') r) c
noncomputable def mkR (v : Option α) (l : T α) (c : T α) : T α := T.rec (motive := fun _ => T α) (.node v l .nil) (fun v' l' r' _ _ => .node v l (.node v' l' r')) c
noncomputable def setF (x : Option α) (d : Nat) : T α → Nat → T α :=
  Nat.rec (motive := fun _ => T α → Nat → T α) (fun t _ => t)
    (fun _ ih t n => Bool.rec (Bool.rec (mkR t.top t.left (ih t.right (Nat.sub (Nat.div n 2) 1))) (mkL t.top t.right (ih t.left (Nat.div n 2))) (Nat.beq (Nat.mod n 2) 1))
      (.node x t.left t.right) (Nat.beq n 0)) d
noncomputable def set (t : T α) (n : Nat) (x : α) : Option (T α) :=
  Bool.rec (some (setF (some x) 20 t n)) none (Nat.ble 1048575 n)
noncomputable def del (t : T α) (n : Nat) : Option (T α) :=
  Bool.rec (some (setF none 20 t n)) none (Nat.ble 1048575 n)
/-- lays a row from i on -/
noncomputable def lay (t : T α) (i : Nat) (l : List α) : Option (T α) :=
  List.rec (motive := fun _ => T α → Nat → Option (T α)) (fun t _ => some t)
    (fun a _ ih t i => Option.rec none (fun t' => ih t' (Nat.succ i)) (t.set i a)) l t i
noncomputable def fill (x : α) (d : Nat) : T α :=
  Nat.rec (motive := fun _ => T α) .nil (fun _ s => .node (some x) s s) d
end T

noncomputable def bnd {α β : Type} (x : Option α) (f : α → Option β) : Option β := Option.rec (motive := fun _ => Option β) none f x
noncomputable def whn {α : Type} (b : Bool) (x : Option α) : Option α := Bool.rec (motive := fun _ => Option α) none x b

inductive Cap where
  | ex (n : Nat)
  | rest (o : Nat)

inductive SVal where
  | bool (b : Bool)
  | int (k : IntKind) (n : Int)
  | str (s : List UInt8)
  | nilPtr
  | ptr (k off : Nat)
  | nilSl
  | sl (k off len : Nat) (cap : Cap)
  | nilMap
  | map (k : Nat)
  | func (fn : Fn) (first cap : List SVal)
  | nilFn
  | nilIface
  | agg (l : List SVal)
  | tup (l : List SVal)

/-- a row: how many of its cells are known, what they hold; its element's type; the cells of an element where the row may be longer; whether it is the call's own -/
structure Blk where
  n : Nat
  c : T SVal
  elem : TypeId
  slack : Option Nat
  own : Bool

inductive SObj where
  | cells (b : Blk)
  | map (es : List (SVal × SVal))
  | opq (t : Nat)

structure St where
  heap : T SObj
  next : Nat
  mark : Nat
  log : List Nat
  ban : List (Nat × Nat)

abbrev M := Option

noncomputable def banned (k : Nat) (l : List (Nat × Nat)) : Bool :=
  List.rec (motive := fun _ => Bool) false (fun p _ ih => Bool.rec ih (Bool.rec ih true (Nat.ble (Nat.succ k) p.2)) (Nat.ble p.1 k)) l

namespace St
noncomputable def look (st : St) (k : Nat) : Option SObj := Bool.rec (st.heap.get k) none (banned k st.ban)
noncomputable def blk (st : St) (k : Nat) : Option Blk := bnd (st.look k) fun o => SObj.rec (motive := fun _ => Option Blk) some (fun _ => none) (fun _ => none) o
noncomputable def note (st : St) (k : Nat) : List Nat := Bool.rec st.log (k :: st.log) (Nat.ble (Nat.succ k) st.mark)
/-- what was there is turned -/
noncomputable def put (st : St) (k : Nat) (o : SObj) : Option St := bnd (st.heap.set k o) fun h => some ⟨h, st.next, st.mark, st.note k, st.ban⟩
noncomputable def drop (st : St) (k : Nat) : Option St := bnd (st.heap.del k) fun h => some ⟨h, st.next, st.mark, st.note k, st.ban⟩
noncomputable def fresh (st : St) (o : SObj) : Option (Nat × St) := bnd (st.heap.set st.next o) fun h => some (st.next, ⟨h, Nat.succ st.next, st.mark, st.log, st.ban⟩)
end St

noncomputable def ofV : Nat → Value → Option SVal
  | 0, _ => none
  | d + 1, v => match v with
    | .bool b => some (.bool b)
    | .int k n => some (.int k n)
    | .string s => some (.str s.data.toList)
    | .pointer none => some .nilPtr
    | .slice none 0 0 => some .nilSl
    | .map none => some .nilMap
    | .func (.func f) ⟨[]⟩ ⟨[]⟩ => some (.func (.func f) [] [])
    | .nilFunc => some .nilFn
    | .nilIface => some .nilIface
    | .agg ⟨a⟩ => (ofVs d a).map .agg
    | .tuple ⟨a⟩ => (ofVs d a).map .tup
    | _ => none
 where
  ofVs (d : Nat) : List Value → Option (List SVal)
    | [] => some []
    | v :: r => match ofV d v with
      | none => none
      | some s => match ofVs d r with
        | none => none
        | some l => some (s :: l)

structure Env where
  types : T TypeInfo
  funcs : T Func
  /-- structs that may be compared field by field -/
  eqs : List TypeId

/-- a frame: how many slots it has, what they hold -/
structure Fr where
  n : Nat
  t : T SVal
noncomputable def Fr.get (fr : Fr) (t : Nat) : Option SVal := fr.t.get t
noncomputable def Fr.set (fr : Fr) (d : Nat) (v : SVal) : Option Fr := whn (Nat.ble (Nat.succ d) fr.n) (bnd (fr.t.set d v) fun t => some ⟨fr.n, t⟩)

noncomputable def inR : IntKind → Int → Bool
  | .i64, .ofNat m => Nat.ble m 9223372036854775807
  | .i64, .negSucc m => Nat.ble m 9223372036854775807
  | .u8, .ofNat m => Nat.ble m 255
  | .u64, .ofNat m => Nat.ble m 18446744073709551615
  | _, _ => false
noncomputable def wrapF (k : IntKind) (n : Int) : Int := Bool.rec (k.wrap n) n (inR k n)
noncomputable def ltI : Int → Int → Bool
  | .ofNat a, .ofNat b => Nat.ble (Nat.succ a) b
  | .ofNat _, .negSucc _ => false
  | .negSucc _, .ofNat _ => true
  | .negSucc a, .negSucc b => Nat.ble (Nat.succ b) a
noncomputable def eqI : Int → Int → Bool
  | .ofNat a, .ofNat b => Nat.beq a b
  | .negSucc a, .negSucc b => Nat.beq a b
  | _, _ => false
noncomputable def kEq (a b : IntKind) : Bool := Nat.beq a.ctorIdx b.ctorIdx
/-- an index below y -/
noncomputable def idx (i : Int) (y : Nat) : Option Nat := Int.rec (fun m => Bool.rec none (some m) (Nat.ble (Nat.succ m) y)) (fun _ => none) i
/-- a bound up to y -/
noncomputable def upTo (i : Int) (y : Nat) : Option Nat := Int.rec (fun m => Bool.rec none (some m) (Nat.ble m y)) (fun _ => none) i

noncomputable def asI : SVal → Option Int
  | .int _ n => some n
  | _ => none
noncomputable def asPtr : SVal → Option (Nat × Nat)
  | .ptr k off => some (k, off)
  | _ => none
noncomputable def asAggS : SVal → Option (List SVal)
  | .agg l => some l
  | _ => none
noncomputable def asTup : SVal → Option (List SVal)
  | .tup l => some l
  | _ => none
noncomputable def asMapN : SVal → Option Nat
  | .map k => some k
  | _ => none
noncomputable def asFn : SVal → Option (FuncId × List SVal × List SVal)
  | .func (.func f) a b => some (f, a, b)
  | _ => none
noncomputable def asB : SVal → Option Bool
  | .bool b => some b
  | _ => none

section
variable (E : Env)

noncomputable def underlyingOf (i : TypeInfo) : M TypeDesc :=
  match i.desc with
  | .named _ u => bnd (E.types.get u) fun j => some j.desc
  | d => some d
noncomputable def under (t : TypeId) : M TypeDesc := bnd (E.types.get t) fun i => underlyingOf E i
noncomputable def sizeT (t : TypeId) : M Nat := bnd (E.types.get t) fun i => some i.size
noncomputable def bytesT (t : TypeId) : M Nat := bnd (E.types.get t) fun i => some i.bytes
noncomputable def zeroT (t : TypeId) : M SVal := bnd (E.types.get t) fun i => bnd i.zero fun v => ofV 4 v
noncomputable def isAggD : TypeDesc → Bool
  | .struct _ => true
  | .array _ _ => true
  | _ => false
noncomputable def sliceD : TypeDesc → Option TypeId
  | .slice e => some e
  | _ => none
noncomputable def structD : TypeDesc → Option (List Field)
  | .struct fs => some fs.toList
  | _ => none
noncomputable def mapD : TypeDesc → Option (TypeId × TypeId)
  | .map k e => some (k, e)
  | _ => none
noncomputable def aggT (t : TypeId) : M Bool := bnd (under E t) fun d => some (isAggD d)
noncomputable def elemT (t : TypeId) : M TypeId := bnd (under E t) sliceD
noncomputable def fieldT (t : TypeId) (f : Nat) : M Field := bnd (bnd (under E t) structD) fun fs => fs[f]?
noncomputable def scells : SVal → List SVal
  | .agg l => l
  | v => [v]

noncomputable def readFrom (c : T SVal) (n i : Nat) : M (List SVal) :=
  Nat.rec (motive := fun _ => Nat → M (List SVal)) (fun _ => some [])
    (fun _ ih i => bnd (c.get i) fun v => bnd (ih (Nat.succ i)) fun l => some (v :: l)) n i

noncomputable def loadS (st : St) (k off n : Nat) : M (List SVal) := bnd (st.blk k) fun b => whn (Nat.ble (Nat.add off n) b.n) (readFrom b.c n off)
noncomputable def load1 (st : St) (k off : Nat) : M SVal := bnd (st.blk k) fun b => whn (Nat.ble (Nat.succ off) b.n) (b.c.get off)
noncomputable def flat1 : SVal → Bool
  | .agg _ => false
  | .tup _ => false
  | _ => true
noncomputable def flatL (l : List SVal) : Bool := List.rec (motive := fun _ => Bool) true (fun v _ ih => Bool.rec false ih (flat1 v)) l
noncomputable def storeS (st : St) (k off : Nat) (l : List SVal) : M St :=
  bnd (st.blk k) fun b => whn b.own (whn (Nat.ble (Nat.add off l.length) b.n) (whn (flatL l) (bnd (b.c.lay off l) fun c => st.put k (.cells ⟨b.n, c, b.elem, b.slack, b.own⟩))))

noncomputable def loadAgg (st : St) (t : TypeId) (k off : Nat) : M SVal := bnd (sizeT E t) fun n => bnd (loadS st k off n) fun l => some (.agg l)
noncomputable def loadV (st : St) (t : TypeId) (k off : Nat) : M SVal := bnd (aggT E t) fun b => Bool.rec (load1 st k off) (loadAgg E st t k off) b

/-- a row of its own -/
noncomputable def newRowS (st : St) (l : List SVal) (elem : TypeId) (slack : Option Nat) : M (Nat × St) :=
  bnd (T.lay T.nil 0 l) fun c => st.fresh (.cells ⟨l.length, c, elem, slack, true⟩)

noncomputable def zeros (z : List SVal) : Nat → List SVal
  | 0 => []
  | n + 1 => z ++ zeros z n
/-- a row of zeros -/
noncomputable def newZeros (st : St) (z : List SVal) (n : Nat) (elem : TypeId) : M (Nat × St) :=
  match z with
  | [x] => whn (Nat.ble n 1000000) (st.fresh (.cells ⟨n, T.fill x (Nat.succ (Nat.log2 (Nat.succ n))), elem, none, true⟩))
  | z => newRowS st (zeros z n) elem none

noncomputable def partS (t : TypeId) (l : List SVal) (off : Nat) : M SVal :=
  bnd (aggT E t) fun b => Bool.rec (l[off]?) (bnd (sizeT E t) fun n => whn (Nat.ble (Nat.add off n) l.length) (some (.agg ((l.drop off).take n)))) b

/-- lays cells over a list -/
noncomputable def over (l : List SVal) (off : Nat) (v : List SVal) : M (List SVal) :=
  whn (Nat.ble (Nat.add off v.length) l.length) (some (l.take off ++ (v ++ l.drop (Nat.add off v.length))))

noncomputable def fillS (place : Nat → Option (Nat × Nat)) (cells : List SVal) (ps : List (Nat × SVal)) : M (List SVal) :=
  List.rec (motive := fun _ => List SVal → M (List SVal)) some
    (fun p _ ih cells => bnd (place p.1) fun q => whn (Nat.beq (scells p.2).length q.2) (bnd (over cells q.1 (scells p.2)) ih)) ps cells

/-- equality; fields and elements in order -/
noncomputable def eqL (f : TypeId → SVal → SVal → M Bool) (xs ys : List SVal) : List (TypeId × Nat) → M Bool
  | [] => some true
  | p :: r => bnd (partS E p.1 xs p.2) fun x => bnd (partS E p.1 ys p.2) fun y => bnd (f p.1 x y) fun b => Bool.rec (some false) (eqL f xs ys r) b
noncomputable def eqAt (rec : TypeId → SVal → SVal → M Bool) (t : TypeId) (d : TypeDesc) (x y : SVal) : M Bool :=
  match d, x, y with
  | .bool, .bool a, .bool b => some (a == b)
  | .int _, .int k a, .int k' b => whn (kEq k k') (some (eqI a b))
  | .string, .str a, .str b => some (a == b)
  | .pointer _, .nilPtr, .nilPtr => some true
  | .pointer _, .nilPtr, .ptr _ _ => some false
  | .pointer _, .ptr _ _, .nilPtr => some false
  | .slice _, .nilSl, .nilSl => some true
  | .slice _, .nilSl, .sl _ _ _ _ => some false
  | .slice _, .sl _ _ _ _, .nilSl => some false
  | .map _ _, .nilMap, .nilMap => some true
  | .map _ _, .map _, .nilMap => some false
  | .func _ _ _, .nilFn, .nilFn => some true
  | .func _ _ _, .nilFn, .func _ _ _ => some false
  | .func _ _ _, .func _ _ _, .nilFn => some false
  | .struct fs, .agg xs, .agg ys => whn (E.eqs.any (Nat.beq t)) <| eqL E rec xs ys ((fs.toList.filter (fun f => f.name != "_")).map fun f => (f.type, f.offset))
  | .array n e, .agg xs, .agg ys => whn (E.eqs.any (Nat.beq t)) <| bnd (sizeT E e) fun s => eqL E rec xs ys ((List.range n).map fun i => (e, i * s))
  | _, _, _ => none
noncomputable def eqS : Nat → TypeId → SVal → SVal → M Bool
  | 0, _, _, _ => none
  | d + 1, t, x, y => bnd (under E t) fun u => eqAt E (eqS d) t u x y

noncomputable def binI (op : BinOp) (k : IntKind) (a b : Int) : M SVal :=
  match op with
  | .add => some (.int k (wrapF k (a + b)))
  | .sub => some (.int k (wrapF k (a - b)))
  | .mul => some (.int k (wrapF k (a * b)))
  | .quo => Bool.rec (some (.int k (wrapF k (a.tdiv b)))) none (eqI b 0)
  | .rem => Bool.rec (some (.int k (a.tmod b))) none (eqI b 0)
  | .eql => some (.bool (eqI a b))
  | .neq => some (.bool (!eqI a b))
  | .lss => some (.bool (ltI a b))
  | .leq => some (.bool (!ltI b a))
  | .gtr => some (.bool (ltI b a))
  | .geq => some (.bool (!ltI a b))
  | _ => none
noncomputable def binStr (op : BinOp) (a b : List UInt8) : M SVal :=
  match op with
  | .add => whn (Nat.ble (Nat.add a.length b.length) 1000000) (some (.str (a ++ b)))
  | .eql => some (.bool (a == b))
  | .neq => some (.bool (!(a == b)))
  | .lss => some (.bool (Op.bytesLess a b))
  | .leq => some (.bool (Op.bytesLess a b || a == b))
  | .gtr => some (.bool (!(Op.bytesLess a b || a == b)))
  | .geq => some (.bool (!Op.bytesLess a b))
  | _ => none
noncomputable def ptrD : TypeDesc → Option TypeId
  | .pointer e => some e
  | _ => none
noncomputable def samePtr (x y : SVal) (t : TypeId) : M Bool :=
  match x, y with
  | .ptr k a, .ptr j b => bnd (under E t) fun d => bnd (ptrD d) fun e => bnd (sizeT E e) fun _ => whn (Nat.beq k j) (whn (Nat.beq a b) (some true))
  | .int _ _, _ => none
  | .str _, _ => none
  | x, y => eqS E 100 t x y
noncomputable def binO (op : BinOp) (t : TypeId) (x y : SVal) : M SVal :=
  match op with
  | .eql => bnd (samePtr E x y t) fun b => some (.bool b)
  | .neq => bnd (samePtr E x y t) fun b => some (.bool (!b))
  | _ => none
noncomputable def binS (op : BinOp) (t : TypeId) (x y : SVal) : M SVal :=
  match x, y with
  | .int k a, .int k' b => whn (kEq k k') (binI op k a b)
  | .str a, .str b => binStr op a b
  | x, y => binO E op t x y

noncomputable def sameKey (t : TypeDesc) (k x : SVal) : M Bool :=
  match t, k, x with
  | .int _, .int j a, .int j' b => Bool.rec none (some (eqI a b)) (kEq j j')
  | .string, .str a, .str b => some (a == b)
  | _, _, _ => none
noncomputable def findS (t : TypeDesc) (k : SVal) (es : List (SVal × SVal)) (i : Nat) : M (Option (Nat × SVal)) :=
  List.rec (motive := fun _ => Nat → M (Option (Nat × SVal))) (fun _ => some none)
    (fun p _ ih i => bnd (sameKey t k p.1) fun b => Bool.rec (ih (Nat.succ i)) (some (some (i, p.2))) b) es i

noncomputable def keyD (d : TypeDesc) (k : SVal) : Bool :=
  match d, k with
  | .int k, .int k' _ => kEq k k'
  | .string, .str _ => true
  | _, _ => false
noncomputable def mapAt (st : St) (k : Nat) : M (List (SVal × SVal)) := bnd (st.look k) fun o => SObj.rec (motive := fun _ => Option (List (SVal × SVal))) (fun _ => none) some (fun _ => none) o
noncomputable def mapOf (st : St) : SVal → M (List (SVal × SVal))
  | .nilMap => some []
  | .map k => mapAt st k
  | _ => none

noncomputable def lenS : SVal → M Nat
  | .nilSl => some 0
  | .sl _ _ n _ => some n
  | .str s => some s.length
  | _ => none
noncomputable def lenD (d : TypeDesc) (x : SVal) : M Nat :=
  match d, x with
  | .string, .str s => some s.length
  | .slice _, .nilSl => some 0
  | .slice _, .sl _ _ n _ => some n
  | _, _ => none

/-- what is appended or copied: so many elements, of so many cells -/
noncomputable def given (st : St) (size : Nat) (n : Nat) : SVal → M (List SVal)
  | .nilSl => whn (Nat.beq n 0) (some [])
  | .sl k off len _ => whn (Nat.ble n len) (loadS st k off (Nat.mul n size))
  | .str l => whn (Nat.beq size 1) (whn (Nat.ble n l.length) (some ((l.take n).map fun b => SVal.int .u8 b.toNat)))
  | _ => none

noncomputable def appNew (st : St) (elem size n : Nat) (new : List SVal) : M (SVal × St) :=
  Bool.rec (bnd (newRowS st new elem (some size)) fun p => some (.sl p.1 0 n (.rest 0), p.2)) (some (.nilSl, st)) (Nat.beq n 0)
noncomputable def appEx (st : St) (elem size n : Nat) (new : List SVal) (k off len c : Nat) : M (SVal × St) :=
  Bool.rec (bnd (loadS st k off (Nat.mul len size)) fun old => bnd (newRowS st (old ++ new) elem (some size)) fun p => some (.sl p.1 0 (Nat.add len n) (.rest 0), p.2))
    (bnd (storeS st k (Nat.add off (Nat.mul len size)) new) fun st' => some (.sl k off (Nat.add len n) (.ex c), st'))
    (Nat.ble (Nat.add len n) c)
/-- a slice whose capacity is not known lies in its row as it should: all its elements are known -/
noncomputable def restOk (b : Blk) (size off len o : Nat) : Bool :=
  Bool.rec false (Bool.rec false (Bool.rec false (Option.rec (motive := fun _ => Bool) false (fun s => Nat.beq s size) b.slack) (Nat.ble (Nat.add off (Nat.mul len size)) b.n)) (Nat.beq off (Nat.mul o size))) (Nat.ble 1 size)
noncomputable def appMove (st : St) (elem size n : Nat) (new : List SVal) (k len : Nat) (b : Blk) : M (SVal × St) :=
  whn b.own <| whn (Nat.beq b.elem elem) <| bnd (b.c.lay (Nat.mul len size) new) fun c => bnd (st.drop k) fun st' => bnd (st'.fresh (.cells ⟨Nat.mul (Nat.add len n) size, c, elem, some size, true⟩)) fun p => some (.sl p.1 0 (Nat.add len n) (.rest 0), p.2)
noncomputable def appRest (st : St) (elem size n : Nat) (new : List SVal) (k off len o : Nat) : M (SVal × St) :=
  bnd (st.blk k) fun b => whn (restOk b size off len o) <|
    Bool.rec (whn (Nat.beq off 0) (whn (Nat.beq o 0) (appMove st elem size n new k len b)))
      (bnd (storeS st k (Nat.add off (Nat.mul len size)) new) fun st' => some (.sl k off (Nat.add len n) (.rest o), st'))
      (Nat.ble (Nat.add off (Nat.mul (Nat.add len n) size)) b.n)
/-- nothing is appended -/
noncomputable def appNone (st : St) (size k off len : Nat) (cap : Cap) : M (SVal × St) :=
  Cap.rec (motive := fun _ => M (SVal × St)) (fun c => whn (Nat.ble len c) (some (.sl k off len (.ex c), st)))
    (fun o => bnd (st.blk k) fun b => whn (restOk b size off len o) (some (.sl k off len (.rest o), st))) cap
noncomputable def appTo (st : St) (elem size n : Nat) (new : List SVal) : SVal → M (SVal × St)
  | .nilSl => appNew st elem size n new
  | .sl k off len cap => whn (Nat.ble len 1000000) (Bool.rec
      (Cap.rec (motive := fun _ => M (SVal × St)) (fun c => appEx st elem size n new k off len c) (fun o => appRest st elem size n new k off len o) cap)
      (appNone st size k off len cap) (Nat.beq n 0))
  | _ => none
noncomputable def manyD : TypeDesc → Option Bool
  | .slice _ => some true
  | .string => some true
  | .int _ => some false
  | _ => none
noncomputable def manyT (ts : List TypeId) : M Bool := bnd (ts[1]?) fun u => bnd (under E u) manyD
noncomputable def appMany (st : St) (elem size : Nat) (s x : SVal) : M (SVal × St) :=
  bnd (lenS x) fun n => bnd (given st size n x) fun l => whn (Nat.ble n 1000000) <| whn (flatL l) (appTo st elem size n l s)
/-- zeros, where there is no room -/
noncomputable def appZTo (st : St) (elem size n : Nat) (new : List SVal) : SVal → M (SVal × St)
  | .nilSl => bnd (newRowS st new elem (some size)) fun p => some (.sl p.1 0 n (.rest 0), p.2)
  | .sl k off len (.ex c) => whn (Nat.ble len 1000000) <| whn (Nat.ble (Nat.succ c) (Nat.add len n)) <|
    bnd (loadS st k off (Nat.mul len size)) fun old => bnd (newRowS st (old ++ new) elem (some size)) fun p => some (.sl p.1 0 (Nat.add len n) (.rest 0), p.2)
  | _ => none
noncomputable def appZ (st : St) (elem size : Nat) (z s x : SVal) : M (SVal × St) :=
  bnd (asI x) fun i => bnd (idx i 1000000) fun n => whn (Nat.ble 1 n) <| whn (Nat.ble 1 size) (appZTo st elem size n (zeros (scells z) n) s)
noncomputable def appendS (st : St) (ts : List TypeId) (s x : SVal) : M (SVal × St) :=
  bnd ts.head? fun t => bnd (elemT E t) fun elem => bnd (sizeT E elem) fun size => bnd (bytesT E elem) fun bytes => bnd (zeroT E elem) fun z => whn (Nat.beq (scells z).length size) <| whn (Nat.ble bytes 4096) <|
    bnd (manyT E ts) fun m => Bool.rec (appZ st elem size z s x) (appMany st elem size s x) m

noncomputable def bOpt (x : Option SVal) (y : Nat) (other : Nat) : M Nat :=
  match x with
  | none => some other
  | some v => match asI v with
    | none => none
    | some i => upTo i y

noncomputable def cutAt (k off size l h m : Nat) : SVal :=
  .sl k (Bool.rec (Nat.add off (Nat.mul l size)) off (Nat.beq m l)) (Nat.sub h l) (.ex (Nat.sub m l))
noncomputable def sliceStr (s : List UInt8) (lo hi mx : Option SVal) : M SVal :=
  match mx with
  | some _ => none
  | none => bnd (bOpt hi s.length s.length) fun h => bnd (bOpt lo h 0) fun l => some (.str ((s.take h).drop l))
noncomputable def hiOk (hi mx : Option SVal) : Bool :=
  match hi, mx with
  | none, some _ => false
  | _, _ => true
noncomputable def sliceNil (lo hi mx : Option SVal) : M SVal :=
  whn (hiOk hi mx) <| bnd (bOpt mx 0 0) fun m => bnd (bOpt hi m 0) fun h => bnd (bOpt lo h 0) fun _ => some .nilSl
noncomputable def sliceEx (size k off len c : Nat) (lo hi mx : Option SVal) : M SVal :=
  whn (hiOk hi mx) <| bnd (bOpt mx c c) fun m => bnd (bOpt hi m len) fun h => bnd (bOpt lo h 0) fun l => some (cutAt k off size l h m)
noncomputable def sliceRest (st : St) (size k off len o : Nat) (lo hi : Option SVal) : M SVal :=
  bnd (st.blk k) fun b => whn (restOk b size off len o) <| bnd (bOpt hi len len) fun h => bnd (bOpt lo h 0) fun l =>
    Bool.rec (whn (Nat.ble (Nat.succ l) len) (some (.sl k (Nat.add off (Nat.mul l size)) (Nat.sub h l) (.rest (Nat.add o l)))))
      (some (.sl k off h (.rest o))) (Nat.beq l 0)
noncomputable def sliceRest3 (st : St) (size k off len o : Nat) (v : SVal) (lo hi : Option SVal) : M SVal :=
  match hi with
  | none => none
  | some u => bnd (st.blk k) fun b => whn (restOk b size off len o) <| bnd (bOpt (some v) len 0) fun m => bnd (bOpt (some u) m 0) fun h => bnd (bOpt lo h 0) fun l => some (cutAt k off size l h m)
noncomputable def sliceSl (st : St) (size k off len : Nat) (cap : Cap) (lo hi mx : Option SVal) : M SVal :=
  match cap, mx with
  | .ex c, mx => sliceEx size k off len c lo hi mx
  | .rest o, none => sliceRest st size k off len o lo hi
  | .rest o, some v => sliceRest3 st size k off len o v lo hi
noncomputable def sliceArr (n elem k off : Nat) (lo hi mx : Option SVal) : M SVal := bnd (sizeT E elem) fun size => sliceEx size k off n n lo hi mx
noncomputable def slicePtr (d : TypeDesc) (k off : Nat) (lo hi mx : Option SVal) : M SVal :=
  match d with
  | .array n elem => sliceArr E n elem k off lo hi mx
  | _ => none
noncomputable def sliceS (st : St) (d : TypeDesc) (x : SVal) (lo hi mx : Option SVal) : M SVal :=
  match d, x with
  | .string, .str s => sliceStr s lo hi mx
  | .slice elem, .nilSl => bnd (sizeT E elem) fun _ => sliceNil lo hi mx
  | .slice elem, .sl k off len cap => bnd (sizeT E elem) fun size => sliceSl st size k off len cap lo hi mx
  | .array n elem, .ptr k off => sliceArr E n elem k off lo hi mx
  | .pointer arr, .ptr k off => bnd (under E arr) fun d => slicePtr E d k off lo hi mx
  | _, _ => none

noncomputable def maxF : List SVal → SVal → M SVal
  | [], x => some x
  | .int _ y :: r, .int k x => maxF r (.int k (Bool.rec x y (ltI x y)))
  | _, _ => none
noncomputable def minF : List SVal → SVal → M SVal
  | [], x => some x
  | .int _ y :: r, .int k x => minF r (.int k (Bool.rec x y (ltI y x)))
  | _, _ => none

noncomputable def toBytes : List SVal → M (List UInt8)
  | [] => some []
  | .int .u8 n :: r => match toBytes r with
    | none => none
    | some l => some (UInt8.ofNat n.toNat :: l)
  | _ => none

noncomputable def arrLen : TypeDesc → M Nat
  | .array n _ => some n
  | _ => none
noncomputable def lenAt (st : St) (d : TypeDesc) (x : SVal) : M Nat :=
  match d with
  | .array n _ => some n
  | .pointer arr => bnd (under E arr) arrLen
  | .map _ _ => bnd (mapOf st x) fun es => some es.length
  | d => lenD d x
noncomputable def lenB (st : St) (ts : List TypeId) (x : SVal) : M (SVal × St) :=
  bnd ts.head? fun t => bnd (under E t) fun d => bnd (lenAt E st d x) fun n => some (.int .i64 (Int.ofNat n), st)
noncomputable def capS : SVal → M Nat
  | .nilSl => some 0
  | .sl _ _ _ (.ex c) => some c
  | _ => none
noncomputable def capB (st : St) (ts : List TypeId) (x : SVal) : M (SVal × St) :=
  bnd ts.head? fun t => bnd (elemT E t) fun _ => bnd (capS x) fun n => some (.int .i64 (Int.ofNat n), st)
noncomputable def copyTo (st : St) (n : Nat) (new : List SVal) : SVal → M (SVal × St)
  | .nilSl => some (.int .i64 (Int.ofNat n), st)
  | .sl k off _ _ => bnd (storeS st k off new) fun st' => some (.int .i64 (Int.ofNat n), st')
  | _ => none
noncomputable def copyB (st : St) (ts : List TypeId) (d s : SVal) : M (SVal × St) :=
  bnd ts.head? fun t => bnd (elemT E t) fun elem => bnd (sizeT E elem) fun size => bnd (lenS s) fun a => bnd (lenS d) fun b =>
    bnd (given st size (Bool.rec b a (Nat.ble a b)) s) fun new => copyTo st (Bool.rec b a (Nat.ble a b)) new d
noncomputable def builtinS (st : St) (b : Builtin) (ts : List TypeId) (args : List SVal) : M (SVal × St) :=
  match b, args with
  | .append, [s, x] => appendS E st ts s x
  | .len, [x] => lenB E st ts x
  | .cap, [x] => capB E st ts x
  | .max, x :: l => bnd (maxF l x) fun v => some (v, st)
  | .min, x :: l => bnd (minF l x) fun v => some (v, st)
  | .copy, [d, s] => copyB E st ts d s
  | _, _ => none
end

abbrev CallF := FuncId → List SVal → St → M (SVal × St)
abbrev Evl := Operand → M SVal
/-- what an operation does -/
abbrev OpF := Env → CallF → Evl → St → M (SVal × St)

noncomputable def evs (ev : Evl) (l : List Operand) : M (List SVal) :=
  List.rec (motive := fun _ => M (List SVal)) (some []) (fun x _ ih => bnd (ev x) fun v => bnd ih fun l => some (v :: l)) l
noncomputable def evps (ev : Evl) (l : List (Nat × Operand)) : M (List (Nat × SVal)) :=
  List.rec (motive := fun _ => M (List (Nat × SVal))) (some []) (fun p _ ih => bnd (ev p.2) fun v => bnd ih fun l => some ((p.1, v) :: l)) l
noncomputable def evo (ev : Evl) (x : Option Operand) : M (Option SVal) :=
  Option.rec (motive := fun _ => M (Option SVal)) (some none) (fun x => bnd (ev x) fun v => some (some v)) x
noncomputable def places (E : Env) : List Field → M (List (Nat × Nat))
  | [] => some []
  | f :: r => bnd (sizeT E f.type) fun s => bnd (places E r) fun l => some ((f.offset, s) :: l)

noncomputable def oMove (x : Operand) : OpF := fun _ _ ev st => bnd (ev x) fun v => some (v, st)
noncomputable def oPick (c a b : Operand) : OpF := fun _ _ ev st => bnd (ev c) fun c => bnd (asB c) fun c => bnd (ev (Bool.rec b a c)) fun v => some (v, st)
noncomputable def oAlloc (elem : TypeId) : OpF := fun E _ _ st => bnd (zeroT E elem) fun z => bnd (match z with
  | .agg l => bnd (newRowS st l elem none) fun p => some p
  | z => newRowS st [z] elem none) fun p => some (.ptr p.1 0, p.2)
noncomputable def oBox (elem : TypeId) (x : Operand) : OpF := fun _ _ ev st => bnd (ev x) fun v => bnd (newRowS st (scells v) elem none) fun p => some (.ptr p.1 0, p.2)
noncomputable def buildAt (E : Env) (z : List SVal) (ps : List (Nat × SVal)) : TypeDesc → M SVal
  | .struct fs => bnd (places E fs.toList) fun pl => bnd (fillS (fun i => pl[i]?) z ps) fun l => some (.agg l)
  | .array _ elem => bnd (sizeT E elem) fun size => bnd (fillS (fun i => some (Nat.mul i size, size)) z ps) fun l => some (.agg l)
  | _ => none
noncomputable def oBuild (t : TypeId) (parts : Array (Nat × Operand)) : OpF := fun E _ ev st =>
  bnd (zeroT E t) fun z => bnd (evps ev parts.toList) fun ps => bnd (under E t) fun d => bnd (buildAt E (scells z) ps d) fun v => some (v, st)
noncomputable def oBuildSlice (t : TypeId) (len : Nat) (parts : Array (Nat × Operand)) : OpF := fun E _ ev st =>
  bnd (elemT E t) fun elem => bnd (sizeT E elem) fun size => bnd (zeroT E elem) fun z => bnd (evps ev parts.toList) fun ps =>
    whn (Nat.ble (Nat.mul len size) 1000000) <| whn (Nat.beq (scells z).length size) (bnd (fillS (fun i => some (Nat.mul i size, size)) (zeros (scells z) len) ps) fun l => bnd (newRowS st l elem none) fun p => some (.sl p.1 0 len (.ex len), p.2))
noncomputable def oLoad (t : TypeId) (a : Operand) : OpF := fun E _ ev st => bnd (ev a) fun v => bnd (asPtr v) fun p => bnd (loadV E st t p.1 p.2) fun v => some (v, st)
noncomputable def oStore (t : TypeId) (a x : Operand) : OpF := fun E _ ev st =>
  bnd (ev a) fun v => bnd (asPtr v) fun p => bnd (ev x) fun v => bnd (sizeT E t) fun s => whn (Nat.beq (scells v).length s) (bnd (storeS st p.1 p.2 (scells v)) fun st' => some (.tup [], st'))
noncomputable def nilOk : SVal → M SVal
  | .ptr k off => some (.ptr k off)
  | .func (.func f) a b => some (.func (.func f) a b)
  | _ => none
noncomputable def oNilCheck (x : Operand) : OpF := fun _ _ ev st => bnd (ev x) fun v => bnd (nilOk v) fun v => some (v, st)
noncomputable def oBinOp (op : BinOp) (t : TypeId) (x y : Operand) (_ : TypeId) : OpF := fun E _ ev st => bnd (ev x) fun a => bnd (ev y) fun b => bnd (binS E op t a b) fun v => some (v, st)
noncomputable def unS (op : UnOp) (v : SVal) : M SVal :=
  match op, v with
  | .neg, .int k n => some (.int k (wrapF k (0 - n)))
  | .not, .bool b => some (.bool (!b))
  | _, _ => none
noncomputable def oUnOp (op : UnOp) (_ : TypeId) (x : Operand) : OpF := fun _ _ ev st => bnd (ev x) fun v => bnd (unS op v) fun v => some (v, st)
noncomputable def convS (E : Env) (st : St) (s d : TypeDesc) (v : SVal) : M SVal :=
  match s, d, v with
  | .int _, .int k, .int _ n => some (.int k (wrapF k n))
  | .string, .string, .str s => some (.str s)
  | .slice e, .string, .nilSl => bnd (under E e) fun u => match u with
    | .int .u8 => some (.str [])
    | _ => none
  | .slice e, .string, .sl k off len _ => bnd (under E e) fun u => match u with
    | .int .u8 => bnd (loadS st k off len) fun l => bnd (toBytes l) fun s => some (.str s)
    | _ => none
  | _, _, _ => none
noncomputable def oConvert (src dst : TypeId) (x : Operand) : OpF := fun E _ ev st => bnd (under E src) fun s => bnd (under E dst) fun d => bnd (ev x) fun v => bnd (convS E st s d v) fun v => some (v, st)
noncomputable def oMakeFunc (fn : Fn) (first cap : Array Operand) : OpF := fun _ _ ev st => bnd (evs ev first.toList) fun a => bnd (evs ev cap.toList) fun b => some (.func fn a b, st)
noncomputable def oMakeMap (_ : TypeId) (r : Option Operand) : OpF := fun _ _ _ st => Option.rec (motive := fun _ => M (SVal × St)) (bnd (st.fresh (.map [])) fun p => some (.map p.1, p.2)) (fun _ => none) r
noncomputable def oMakeSlice (t : TypeId) (l c : Operand) : OpF := fun E _ ev st =>
  bnd (elemT E t) fun elem => bnd (ev l) fun l => bnd (ev c) fun c => bnd (asI c) fun c => bnd (idx c 1000000) fun c => bnd (asI l) fun l => bnd (upTo l c) fun l =>
    bnd (bytesT E elem) fun bytes => bnd (sizeT E elem) fun size => bnd (zeroT E elem) fun z => whn (Nat.ble bytes 4096) <| whn (Nat.beq (scells z).length size) <| bnd (newZeros st (scells z) c elem) fun p => some (.sl p.1 0 l (.ex c), p.2)
noncomputable def oSlice (t : TypeId) (x : Operand) (lo hi mx : Option Operand) : OpF := fun E _ ev st =>
  bnd (ev x) fun x => bnd (evo ev lo) fun lo => bnd (evo ev hi) fun hi => bnd (evo ev mx) fun mx => bnd (under E t) fun d => bnd (sliceS E st d x lo hi mx) fun v => some (v, st)
noncomputable def oFieldAddr (s : TypeId) (x : Operand) (f : Nat) : OpF := fun E _ ev st => bnd (fieldT E s f) fun f => bnd (ev x) fun v => bnd (asPtr v) fun p => bnd (sizeT E f.type) fun s => whn (Nat.ble 1 s) (some (.ptr p.1 (Nat.add p.2 f.offset), st))
noncomputable def oField (t : TypeId) (x : Operand) (f : Nat) : OpF := fun E _ ev st => bnd (fieldT E t f) fun f => bnd (ev x) fun v => bnd (asAggS v) fun l => bnd (partS E f.type l f.offset) fun v => some (v, st)
noncomputable def indexAddrS (E : Env) (i : Int) (d : TypeDesc) (x : SVal) : M SVal :=
  match d, x with
  | .array n elem, .ptr k off => bnd (idx i n) fun j => bnd (sizeT E elem) fun s => some (.ptr k (Nat.add off (Nat.mul j s)))
  | .slice elem, .sl k off n _ => bnd (idx i n) fun j => bnd (sizeT E elem) fun s => some (.ptr k (Nat.add off (Nat.mul j s)))
  | _, _ => none
noncomputable def oIndexAddr (t : TypeId) (x ix : Operand) : OpF := fun E _ ev st => bnd (ev ix) fun i => bnd (asI i) fun i => bnd (under E t) fun d => bnd (ev x) fun x => bnd (indexAddrS E i d x) fun v => some (v, st)
noncomputable def indexS (E : Env) (i : Int) (d : TypeDesc) (x : SVal) : M SVal :=
  match d, x with
  | .array n elem, .agg l => bnd (idx i n) fun j => bnd (sizeT E elem) fun s => partS E elem l (Nat.mul j s)
  | .string, .str s => bnd (idx i s.length) fun j => bnd (s[j]?) fun b => some (.int .u8 (Int.ofNat b.toNat))
  | _, _ => none
noncomputable def oIndex (t : TypeId) (x ix : Operand) : OpF := fun E _ ev st => bnd (ev ix) fun i => bnd (asI i) fun i => bnd (under E t) fun d => bnd (ev x) fun x => bnd (indexS E i d x) fun v => some (v, st)
noncomputable def lookV (ok : Bool) (v : SVal) (b : Bool) : SVal := Bool.rec v (.tup [v, .bool b]) ok
noncomputable def oLookup (t : TypeId) (x ix : Operand) (ok : Bool) : OpF := fun E _ ev st =>
  bnd (bnd (under E t) mapD) fun ke => bnd (ev x) fun x => bnd (mapOf st x) fun es => bnd (ev ix) fun k => bnd (under E ke.1) fun d => whn (keyD d k) <| bnd (findS d k es 0) fun r =>
    Option.rec (motive := fun _ => M (SVal × St)) (bnd (zeroT E ke.2) fun z => some (lookV ok z false, st)) (fun p => some (lookV ok p.2 true, st)) r
noncomputable def oMapUpdate (t : TypeId) (m k x : Operand) : OpF := fun E _ ev st =>
  bnd (bnd (under E t) mapD) fun ke => bnd (ev m) fun m => bnd (asMapN m) fun r => bnd (mapAt st r) fun es => bnd (ev k) fun k => bnd (ev x) fun v => bnd (under E ke.1) fun d => whn (keyD d k) <| bnd (findS d k es 0) fun q =>
    bnd (st.put r (.map (Option.rec (motive := fun _ => List (SVal × SVal)) (es ++ [(k, v)]) (fun p => es.modify p.1 fun e => (e.1, v)) q))) fun st' => some (.tup [], st')
noncomputable def oExtract (t : Operand) (ix : Nat) : OpF := fun _ _ ev st => bnd (ev t) fun v => bnd (asTup v) fun l => bnd (l[ix]?) fun v => some (v, st)
noncomputable def callTo (c : Callee) (args : List SVal) (ts : List TypeId) : OpF := fun E call ev st =>
  match c with
  | .builtin b => builtinS E st b ts args
  | .value f => bnd (ev f) fun f => bnd (asFn f) fun f => call f.1 (f.2.1 ++ (args ++ f.2.2)) st
  | .invoke _ _ => none
noncomputable def oCall (c : Call) : OpF := fun E call ev st => bnd (evs ev c.args.toList) fun args => callTo c.callee args c.argTypes.toList E call ev st
noncomputable def oNo : OpF := fun _ _ _ _ => none
noncomputable def opS (op : Op) : OpF :=
  Op.rec (motive := fun _ => OpF) oMove oMove oPick oAlloc oBox oBuild oBuildSlice oMapUpdate oLoad oStore (fun _ => oNo) (fun _ => oNo) oNilCheck oBinOp oUnOp oConvert
    (fun _ _ => oNo) (fun _ _ => oNo) oMakeFunc oMakeMap (fun _ _ => oNo) oMakeSlice oSlice oFieldAddr oField oIndexAddr oIndex oLookup oMapUpdate (fun _ _ _ => oNo) (fun _ _ _ _ => oNo)
    (fun _ _ => oNo) (fun _ _ => oNo) (fun _ => oNo) (fun _ _ _ _ => oNo) oExtract oCall (fun _ => oNo) (fun _ => oNo) (fun _ => oNo) (fun _ _ => oNo) (fun _ _ _ => oNo) (fun _ _ => oNo) op

inductive Ex where
  | normal
  | exit (id : Nat)
  | ret

noncomputable def evS (fr : Fr) (x : Operand) : M SVal :=
  Operand.rec (motive := fun _ => M SVal) (fun t => fr.get t) (fun v => ofV 4 v) (fun _ => none) (fun f => some (.func (.func f) [] [])) x

noncomputable def guardIs (b : Bool) : SVal → M Bool
  | .bool c => some (c == b)
  | .tup [] => some false
  | _ => none
noncomputable def wantS (ops : List Oper) (fr : Fr) (g : Option (Nat × Bool)) : M Bool :=
  Option.rec (motive := fun _ => M Bool) (some true) (fun p => bnd (ops[p.1]?) fun q => bnd q.dst fun d => bnd (fr.get d) fun v => guardIs p.2 v) g

noncomputable def putS (fr : Fr) (d : Option Nat) (v : SVal) : M Fr :=
  Option.rec (motive := fun _ => M Fr) (some fr) (fun d => fr.set d v) d

noncomputable def opsS (E : Env) (call : CallF) (all : List Oper) (l : List Oper) : Fr → St → M (Fr × St) :=
  List.rec (motive := fun _ => Fr → St → M (Fr × St)) (fun fr st => some (fr, st))
    (fun o _ ih fr st => bnd (wantS all fr o.guard) fun b => Bool.rec (bnd (putS fr o.dst (.tup [])) fun fr' => ih fr' st)
      (bnd (opS o.op E call (evS fr) st) fun p => bnd (putS fr o.dst p.1) fun fr' => ih fr' p.2) b) l

/-- what an operation of a region that draws its order has touched: its new names, and the old ones that it turned -/
structure Tch where
  j : Nat
  lo : Nat
  hi : Nat
  log : List Nat

/-- operation k waits for operation j, or the other way round -/
noncomputable def ordered (before : List Nat) (j k : Nat) : Bool := ((before.getD k 0).testBit j) || ((before.getD j 0).testBit k)
noncomputable def ones (r : List (Nat × Nat)) : List Nat → List (Nat × Nat)
  | [] => r
  | n :: l => (n, Nat.succ n) :: ones r l
/-- what is barred from operation k: what those touch that it is not ordered with -/
noncomputable def barred (before : List Nat) (k : Nat) (ts : List Tch) (r : List (Nat × Nat)) : List (Nat × Nat) :=
  List.rec (motive := fun _ => List (Nat × Nat)) r (fun t _ ih => Bool.rec (Bool.rec ((t.lo, t.hi) :: ones ih t.log) ih (ordered before t.j k)) ih (Nat.beq t.j k)) ts
/-- what an earlier trial says that those turn -/
noncomputable def below (m : Nat) (l : List Nat) : List Nat :=
  List.rec (motive := fun _ => List Nat) [] (fun n _ ih => Bool.rec ih (n :: ih) (Nat.ble (Nat.succ n) m)) l
/-- what is barred from operation k: what the trial turned of the elder names, of those that it is not ordered with -/
noncomputable def barredOld (before : List Nat) (k m : Nat) (ts : List Tch) (r : List (Nat × Nat)) : List (Nat × Nat) :=
  List.rec (motive := fun _ => List (Nat × Nat)) r (fun t _ ih => Bool.rec (Bool.rec (ones ih (below m t.log)) ih (ordered before t.j k)) ih (Nat.beq t.j k)) ts
noncomputable def touched (j lo hi : Nat) (log : List Nat) (acc : List Tch) : List Tch :=
  match log with
  | [] => Bool.rec (⟨j, lo, hi, []⟩ :: acc) acc (Nat.beq lo hi)
  | _ :: _ => ⟨j, lo, hi, log⟩ :: acc

/-- a region that draws its order, in the order of the text; each operation without what those touch that it is not ordered with -/
noncomputable def opsD (E : Env) (call : CallF) (all : List Oper) (before : List Nat) (sup : List Tch) (l : List Oper) : Nat → Fr → St → List Tch → M (Fr × St × List Tch) :=
  List.rec (motive := fun _ => Nat → Fr → St → List Tch → M (Fr × St × List Tch)) (fun _ fr st acc => some (fr, st, acc))
    (fun o _ ih k fr st acc => bnd (wantS all fr o.guard) fun b => Bool.rec (bnd (putS fr o.dst (.tup [])) fun fr' => ih (Nat.succ k) fr' st acc)
      (bnd (opS o.op E call (evS fr) ⟨st.heap, st.next, st.next, [], barred before k acc (barredOld before k st.next sup st.ban)⟩) fun p => bnd (putS fr o.dst p.1) fun fr' =>
        ih (Nat.succ k) fr' ⟨p.2.heap, p.2.next, st.mark, below st.mark p.2.log ++ st.log, st.ban⟩ (touched k st.next p.2.next p.2.log acc)) b) l

noncomputable def subL : List Nat → List Nat → Bool
  | [], _ => true
  | n :: r, b => match b.any (Nat.beq n) with
    | true => subL r b
    | false => false
/-- operation j is ordered with all that stand before it -/
noncomputable def allOrdered (before : List Nat) (j : Nat) : Nat → Bool
  | 0 => true
  | k + 1 => match ordered before k j with
    | true => allOrdered before j k
    | false => false
/-- what an operation turned was barred from those before it that it is not ordered with -/
noncomputable def lateOk (before : List Nat) (sup : List Tch) : List Tch → Bool
  | [] => true
  | t :: ts => match t.log with
    | [] => lateOk before sup ts
    | _ :: _ => match allOrdered before t.j t.j with
      | true => lateOk before sup ts
      | false => match sup.any (fun s => match Nat.beq s.j t.j with | true => subL t.log s.log | false => false) with
        | true => lateOk before sup ts
        | false => false

/-- the operands of an operation are written before it, by operations that it waits for; no slot is written twice -/
noncomputable def relB (ops : List Oper) (n : Nat) : Bool :=
  ops.zipIdx.all fun x =>
    (x.1.looksAt ops.toArray).all (fun t => ops.zipIdx.all fun y => y.1.dst != some t || (decide (y.2 < x.2) && x.1.after.any (fun e => e.on == y.2 && Region.binds .any e))) &&
    ops.zipIdx.all (fun y => y.2 == x.2 || y.1.dst == none || y.1.dst != x.1.dst) &&
    (match x.1.dst with | some d => decide (d < n) | none => true) &&
    x.1.after.all (fun e => !Region.binds .any e || decide (e.on < x.2))
structure Rec where
  code : Code → Fr → St → M (Ex × Fr × St)
  call : CallF

noncomputable def drawAgain (E : Env) (call : CallF) (ops : List Oper) (before : List Nat) (fr : Fr) (st : St) (ts : List Tch) : M (Ex × Fr × St) :=
  bnd (opsD E call ops before ts ops 0 fr st []) fun p => whn (lateOk before ts p.2.2) (some (.normal, p.1, p.2.1))
noncomputable def drawS (E : Env) (call : CallF) (ops : List Oper) (before : List Nat) (fr : Fr) (st : St) : M (Ex × Fr × St) :=
  whn (relB ops fr.n) <| bnd (opsD E call ops before [] ops 0 fr st []) fun p => Bool.rec (drawAgain E call ops before fr st p.2.2) (some (.normal, p.1, p.2.1)) (lateOk before [] p.2.2)

/-- what a piece of code does -/
abbrev CodeF := Env → Rec → Fr → St → M (Ex × Fr × St)
noncomputable def cSkip : CodeF := fun _ _ fr st => some (.normal, fr, st)
noncomputable def cRegion (_ : Nat) (ops : Array Oper) (draw : Bool) : CodeF := fun E ih fr st =>
  Bool.rec (bnd (opsS E ih.call ops.toList ops.toList fr st) fun p => some (.normal, p.1, p.2)) (drawS E ih.call ops.toList (Region.before ops).toList fr st) draw
noncomputable def onNormal (k : Fr → St → M (Ex × Fr × St)) (p : Ex × Fr × St) : M (Ex × Fr × St) :=
  Ex.rec (motive := fun _ => M (Ex × Fr × St)) (k p.2.1 p.2.2) (fun _ => some p) (some p) p.1
noncomputable def cSeq (a b : Code) : CodeF := fun _ ih fr st => bnd (ih.code a fr st) (onNormal (ih.code b))
noncomputable def cCond (c : Operand) (a b : Code) : CodeF := fun _ ih fr st => bnd (evS fr c) fun v => bnd (asB v) fun t => ih.code (Bool.rec b a t) fr st
noncomputable def onExit (id : Nat) (p : Ex × Fr × St) : M (Ex × Fr × St) :=
  Ex.rec (motive := fun _ => M (Ex × Fr × St)) (some p) (fun j => Bool.rec (some p) (some (.normal, p.2.1, p.2.2)) (Nat.beq j id)) (some p) p.1
noncomputable def cBlock (id : Nat) (c : Code) : CodeF := fun _ ih fr st => bnd (ih.code c fr st) (onExit id)
noncomputable def cLoop (c : Code) : CodeF := fun _ ih fr st => bnd (ih.code c fr st) (onNormal (ih.code (.loop c)))
noncomputable def cExit (id : Nat) : CodeF := fun _ _ fr st => some (.exit id, fr, st)
noncomputable def cScope (c : Code) : CodeF := fun _ ih fr st => ih.code c fr st
noncomputable def cRet : CodeF := fun _ _ fr st => some (.ret, fr, st)
noncomputable def cNo : CodeF := fun _ _ _ _ => none
noncomputable def codeStep (c : Code) : CodeF :=
  Code.rec (motive := fun _ => CodeF) cSkip cRegion (fun a b _ _ => cSeq a b) (fun c a b _ _ => cCond c a b) (fun id c _ => cBlock id c) (fun c _ => cLoop c) (fun _ _ _ _ _ _ => cNo) cExit
    (fun c _ => cScope c) (fun _ => cSkip) (fun _ => cNo) cRet (fun _ => cNo) c

noncomputable def res1 (E : Env) (fr : Fr) (st : St) (r : ResultVar) : M SVal :=
  ResultVar.rec (motive := fun _ => M SVal) (fun t => fr.get t) (fun a t => bnd (fr.get a) fun v => bnd (asPtr v) fun p => loadV E st t p.1 p.2) r
noncomputable def resS (E : Env) (fr : Fr) (st : St) (l : List ResultVar) : M (List SVal) :=
  List.rec (motive := fun _ => M (List SVal)) (some []) (fun r _ ih => bnd (res1 E fr st r) fun v => bnd ih fun l => some (v :: l)) l
noncomputable def resV : List SVal → SVal
  | [v] => v
  | vs => .tup vs
noncomputable def endOk : Ex → Bool
  | .exit _ => false
  | _ => true

noncomputable def callFn (E : Env) (ih : Rec) (fn : Func) (args : List SVal) (st : St) : M (SVal × St) :=
  bnd fn.body fun body => bnd (T.lay T.nil 0 args) fun fr => bnd (ih.code body ⟨Nat.add args.length (Nat.sub fn.ntmps args.length), fr⟩ st) fun p => whn (endOk p.1) (bnd (resS E p.2.1 p.2.2 fn.results.toList) fun vs => some (resV vs, p.2.2))
noncomputable def callStep (E : Env) (ext : FuncId → Option (List SVal → St → M (SVal × St))) (ih : Rec) (f : FuncId) (args : List SVal) (st : St) : M (SVal × St) :=
  Option.rec (motive := fun _ => M (SVal × St)) (bnd (E.funcs.get f) fun fn => callFn E ih fn args st)
    (fun x => Option.rec (motive := fun _ => M (SVal × St)) (bnd (E.funcs.get f) fun fn => callFn E ih fn args st) some (x args st)) (ext f)

noncomputable def run (E : Env) (ext : FuncId → Option (List SVal → St → M (SVal × St))) (n : Nat) : Rec :=
  Nat.rec (motive := fun _ => Rec) ⟨fun _ _ _ => none, fun _ _ _ => none⟩ (fun _ ih => ⟨fun c => codeStep c E ih, callStep E ext ih⟩) n

end Ev
