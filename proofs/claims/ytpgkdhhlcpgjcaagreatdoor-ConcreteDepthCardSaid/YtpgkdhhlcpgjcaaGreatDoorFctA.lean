import Derived.Test.YtpgkdhhlcpgjcaaGreatDoorEv5
import Derived.Test.YtpgkdhhlcpgjcaaGreatDoorSndD
/-
  Facts: what a call hands back for known contents, to be used again wherever these contents lie.
-/
namespace Ev
open Go

/-- where a name of a fact lies: a name, cells, elements -/
structure Ent where
  k : Nat
  off : Nat
  o : Nat
structure Row0 where
  cells : List SVal
  slack : Option Nat
structure Row1 where
  cells : List SVal
  elem : TypeId
  slack : Option Nat
/-- function, arguments on names from 0 on, their rows, the result, its rows -/
structure Fct where
  f : FuncId
  args : List SVal
  rows : List Row0
  res : SVal
  out : List Row1

abbrev MF := SVal → SVal → Nat → T Ent → Option (Nat × T Ent)
noncomputable def pushE (j : Nat) (e : Ent) (n : Nat) (a : T Ent) : Option (Nat × T Ent) :=
  whn (Nat.beq j n) (bnd (a.set n e) fun a' => some (Nat.succ n, a'))
/-- a cell of the fact against one that is there; names are handed out in order -/
noncomputable def m0 : MF := fun c v n a =>
  match c, v with
  | .bool x, .bool y => whn (x == y) (some (n, a))
  | .int k x, .int k' y => whn (kEq k k') (whn (eqI x y) (some (n, a)))
  | .str x, .str y => whn (x == y) (some (n, a))
  | .nilPtr, .nilPtr => some (n, a)
  | .ptr j d, .ptr k off => whn (Nat.beq d 0) (pushE j ⟨k, off, 0⟩ n a)
  | .nilSl, .nilSl => some (n, a)
  | .sl j d len (.ex c), .sl k off len' (.ex c') => whn (Nat.beq d 0) (whn (Nat.beq len len') (whn (Nat.beq c c') (pushE j ⟨k, off, 0⟩ n a)))
  | .sl j d len (.rest r), .sl k off len' (.rest o) => whn (Nat.beq d 0) (whn (Nat.beq len len') (whn (Nat.beq r 0) (pushE j ⟨k, off, o⟩ n a)))
  | .nilMap, .nilMap => some (n, a)
  | .nilFn, .nilFn => some (n, a)
  | .nilIface, .nilIface => some (n, a)
  | _, _ => none
noncomputable def mLs (m : MF) (cs : List SVal) : List SVal → Nat → T Ent → Option (Nat × T Ent) :=
  List.rec (motive := fun _ => List SVal → Nat → T Ent → Option (Nat × T Ent))
    (fun vs n a => List.rec (motive := fun _ => Option (Nat × T Ent)) (some (n, a)) (fun _ _ _ => none) vs)
    (fun c _ ih vs n a => List.rec (motive := fun _ => Option (Nat × T Ent)) none (fun v vs' _ => bnd (m c v n a) fun p => ih vs' p.1 p.2) vs) cs
noncomputable def mUp (m : MF) : MF := fun c v n a =>
  match c, v with
  | .agg x, .agg y => mLs m x y n a
  | .tup x, .tup y => mLs m x y n a
  | .func (.func f) x y, .func (.func g) x' y' => whn (Nat.beq f g) (bnd (mLs m x x' n a) fun p => mLs m y y' p.1 p.2)
  | c, v => m0 c v n a
noncomputable def mF : MF := mUp (mUp (mUp m0))

noncomputable def slackOk (s : Option Nat) (b : Blk) (e : Ent) : Bool :=
  Option.rec (motive := fun _ => Bool) true (fun s => Bool.rec false (Option.rec (motive := fun _ => Bool) false (fun t => Nat.beq s t) b.slack) (Nat.beq e.off (Nat.mul e.o s))) s
noncomputable def mRows (st : St) (rows : List Row0) : Nat → Nat → T Ent → Option (Nat × T Ent) :=
  List.rec (motive := fun _ => Nat → Nat → T Ent → Option (Nat × T Ent)) (fun _ n a => some (n, a))
    (fun r _ ih j n a => whn (Nat.ble (Nat.succ j) n) <| bnd (a.get j) fun e => bnd (st.blk e.k) fun b => whn (Nat.ble (Nat.add e.off r.cells.length) b.n) <| whn (slackOk r.slack b e) <|
      bnd (readFrom b.c r.cells.length e.off) fun l => bnd (mLs mF r.cells l n a) fun p => ih (Nat.succ j) p.1 p.2) rows

abbrev RF := SVal → Option SVal
/-- a name of the fact as a name that is there -/
noncomputable def r0 (a : T Ent) (K nx : Nat) : RF
  | .ptr k off => Bool.rec (some (.ptr (Nat.add nx (Nat.sub k K)) off)) (bnd (a.get k) fun e => some (.ptr e.k (Nat.add e.off off))) (Nat.ble (Nat.succ k) K)
  | .sl k off len (.ex c) => Bool.rec (some (.sl (Nat.add nx (Nat.sub k K)) off len (.ex c))) (bnd (a.get k) fun e => some (.sl e.k (Nat.add e.off off) len (.ex c))) (Nat.ble (Nat.succ k) K)
  | .sl k off len (.rest o) => Bool.rec (some (.sl (Nat.add nx (Nat.sub k K)) off len (.rest o))) (bnd (a.get k) fun e => some (.sl e.k (Nat.add e.off off) len (.rest (Nat.add e.o o)))) (Nat.ble (Nat.succ k) K)
  | .bool b => some (.bool b)
  | .int k n => some (.int k n)
  | .str s => some (.str s)
  | .nilPtr => some .nilPtr
  | .nilSl => some .nilSl
  | .nilMap => some .nilMap
  | .nilFn => some .nilFn
  | .nilIface => some .nilIface
  | _ => none
noncomputable def rLs (r : RF) (l : List SVal) : Option (List SVal) :=
  List.rec (motive := fun _ => Option (List SVal)) (some []) (fun c _ ih => bnd (r c) fun v => bnd ih fun l => some (v :: l)) l
noncomputable def rUp (r : RF) (r' : RF) : RF
  | .agg x => bnd (rLs r x) fun l => some (.agg l)
  | .tup x => bnd (rLs r x) fun l => some (.tup l)
  | .func f x y => bnd (rLs r x) fun l => bnd (rLs r y) fun l' => some (.func f l l')
  | v => r' v
noncomputable def rF (a : T Ent) (K nx : Nat) : RF := rUp (rUp (rUp (r0 a K nx) (r0 a K nx)) (r0 a K nx)) (r0 a K nx)
noncomputable def addOut (a : T Ent) (K nx : Nat) (rows : List Row1) : St → Option St :=
  List.rec (motive := fun _ => St → Option St) some (fun r _ ih st => bnd (rLs (rF a K nx) r.cells) fun cs => bnd (newRowS st cs r.elem r.slack) fun p => ih p.2) rows
/-- a fact at work -/
noncomputable def useF (fc : Fct) (args : List SVal) (st : St) : M (SVal × St) :=
  bnd (mLs mF fc.args args 0 T.nil) fun p => bnd (mRows st fc.rows 0 p.1 p.2) fun q => whn (Nat.beq q.1 fc.rows.length) <|
    bnd (addOut q.2 fc.rows.length st.next fc.out st) fun st' => bnd (rF q.2 fc.rows.length st.next fc.res) fun s => some (s, st')
/-- the first fact that fits -/
noncomputable def tryF (l : List Fct) (f : FuncId) (args : List SVal) (st : St) : M (SVal × St) :=
  List.rec (motive := fun _ => M (SVal × St)) none
    (fun fc _ ih => Bool.rec ih (Option.rec (motive := fun _ => M (SVal × St)) ih some (useF fc args st)) (Nat.beq f fc.f)) l
noncomputable def withF (l : List Fct) (base : FuncId → Option (List SVal → St → M (SVal × St))) (f : FuncId) : Option (List SVal → St → M (SVal × St)) :=
  Option.rec (motive := fun _ => Option (List SVal → St → M (SVal × St))) (some (tryF l f)) some (base f)

/-! The test of a fact. -/
noncomputable def pstRows (rows : List Row0) : Nat → T SObj → Option (T SObj) :=
  List.rec (motive := fun _ => Nat → T SObj → Option (T SObj)) (fun _ t => some t)
    (fun r _ ih j t => bnd (T.lay T.nil 0 r.cells) fun c => bnd (t.set j (.cells ⟨r.cells.length, c, 0, r.slack, false⟩)) fun t' => ih (Nat.succ j) t') rows
noncomputable def pst (rows : List Row0) : Option St := bnd (pstRows rows 0 T.nil) fun h => some ⟨h, rows.length, rows.length, [], []⟩
abbrev SF := SVal → SVal → Bool
noncomputable def andB (a b : Bool) : Bool := Bool.rec false b a
noncomputable def sName (ns : List Nat) (K k k' : Nat) : Bool :=
  Bool.rec (Option.rec (motive := fun _ => Bool) false (fun n => Nat.beq n k) (ns[Nat.sub k' K]?)) (Nat.beq k k') (Nat.ble (Nat.succ k') K)
noncomputable def s0 (ns : List Nat) (K : Nat) : SF := fun v c =>
  match v, c with
  | .bool x, .bool y => x == y
  | .int k x, .int k' y => andB (kEq k k') (eqI x y)
  | .str x, .str y => x == y
  | .nilPtr, .nilPtr => true
  | .ptr k off, .ptr k' off' => andB (Nat.beq off off') (sName ns K k k')
  | .nilSl, .nilSl => true
  | .sl k off len (.ex c), .sl k' off' len' (.ex c') => andB (Nat.beq off off') (andB (Nat.beq len len') (andB (Nat.beq c c') (sName ns K k k')))
  | .sl k off len (.rest c), .sl k' off' len' (.rest c') => andB (Nat.beq off off') (andB (Nat.beq len len') (andB (Nat.beq c c') (sName ns K k k')))
  | .nilMap, .nilMap => true
  | .nilFn, .nilFn => true
  | .nilIface, .nilIface => true
  | _, _ => false
noncomputable def sLs (m : SF) (vs : List SVal) : List SVal → Bool :=
  List.rec (motive := fun _ => List SVal → Bool)
    (fun cs => List.rec (motive := fun _ => Bool) true (fun _ _ _ => false) cs)
    (fun v _ ih cs => List.rec (motive := fun _ => Bool) false (fun c cs' _ => andB (m v c) (ih cs')) cs) vs
noncomputable def sUp (m : SF) (m' : SF) : SF := fun v c =>
  match v, c with
  | .agg x, .agg y => sLs m x y
  | .tup x, .tup y => sLs m x y
  | .func (.func f) x y, .func (.func g) x' y' => andB (Nat.beq f g) (andB (sLs m x x') (sLs m y y'))
  | v, c => m' v c
noncomputable def sF (ns : List Nat) (K : Nat) : SF := sUp (sUp (sUp (s0 ns K) (s0 ns K)) (s0 ns K)) (s0 ns K)
noncomputable def oEq (a b : Option Nat) : Bool :=
  Option.rec (motive := fun _ => Bool) (Option.rec (motive := fun _ => Bool) true (fun _ => false) b) (fun x => Option.rec (motive := fun _ => Bool) false (fun y => Nat.beq x y) b) a
noncomputable def outRow (ns : List Nat) (K : Nat) (st : St) (n : Nat) (r : Row1) : Option Unit :=
  bnd (st.blk n) fun b => whn b.own <| whn (Nat.beq b.n r.cells.length) <| whn (Nat.beq b.elem r.elem) <| whn (oEq b.slack r.slack) <| bnd (readFrom b.c b.n 0) fun l => whn (sLs (sF ns K) l r.cells) (some ())
noncomputable def outRows (ns : List Nat) (K : Nat) (st : St) (l : List Nat) : List Row1 → Option Unit :=
  List.rec (motive := fun _ => List Row1 → Option Unit)
    (fun rs => List.rec (motive := fun _ => Option Unit) (some ()) (fun _ _ _ => none) rs)
    (fun n _ ih rs => List.rec (motive := fun _ => Option Unit) none (fun r rs' _ => bnd (outRow ns K st n r) fun _ => ih rs') rs) l
noncomputable def notIn (n : Nat) (l : List Nat) : Bool := List.rec (motive := fun _ => Bool) true (fun m _ ih => Bool.rec ih false (Nat.beq n m)) l
noncomputable def apart (K : Nat) (l : List Nat) : Bool := List.rec (motive := fun _ => Bool) true (fun m r ih => Bool.rec false (Bool.rec false ih (notIn m r)) (Nat.ble K m)) l
noncomputable def chkF (E : Env) (ext : FuncId → Option (List SVal → St → M (SVal × St))) (fc : Fct) (ns : List Nat) : Option Unit :=
  bnd (E.funcs.get fc.f) fun fn => bnd (pst fc.rows) fun st => bnd (callFn E (run E ext 100000) fn fc.args st) fun p =>
    whn (sF ns fc.rows.length p.1 fc.res) <| bnd (outRows ns fc.rows.length p.2 ns fc.out) fun _ => whn (apart fc.rows.length ns) (some ())
noncomputable def isU (x : Option Unit) : Bool := Option.rec (motive := fun _ => Bool) false (fun _ => true) x
noncomputable def chk (E : Env) (base : FuncId → Option (List SVal → St → M (SVal × St))) (l : List Fct) (fc : Fct) (ns : List Nat) : Bool := isU (chkF E (withF l base) fc ns)
end Ev
/-
  A fact that was tested holds wherever its contents lie.
-/
namespace Ev
open Go Go.RowKit

noncomputable def rhoOf (ρ : Val) (a : T Ent) (n : Nat) : Val := fun j => if j < n then (a.get j).bind fun e => (ρ e.k).map fun l => ⟨l.blk, l.base + e.off, l.cap - e.o⟩ else none
def Grows (n : Nat) (a : T Ent) (n' : Nat) (a' : T Ent) : Prop := n ≤ n' ∧ ∀ j, j < n → a'.get j = a.get j
theorem Grows.refl (n : Nat) (a : T Ent) : Grows n a n a := ⟨Nat.le_refl _, fun _ _ => rfl⟩
theorem Grows.trans {n1 n2 n3 : Nat} {a1 a2 a3 : T Ent} (h : Grows n1 a1 n2 a2) (k : Grows n2 a2 n3 a3) : Grows n1 a1 n3 a3 :=
  ⟨Nat.le_trans h.1 k.1, fun j hj => (k.2 j (Nat.lt_of_lt_of_le hj h.1)).trans (h.2 j hj)⟩
theorem Grows.le {n n' : Nat} {a a' : T Ent} (h : Grows n a n' a') (ρ : Val) : Le (rhoOf ρ a n) (rhoOf ρ a' n') := fun k l hk => by
  unfold rhoOf at hk ⊢
  split at hk
  · rename_i hlt
    have := h.1
    rw [if_pos (by omega), h.2 k hlt]
    exact hk
  · cases hk
theorem push_ok {j n n' : Nat} {e : Ent} {a a' : T Ent} (h : pushE j e n a = some (n', a')) :
    Grows n a n' a' ∧ ∀ ρ l, ρ e.k = some l → rhoOf ρ a' n' j = some ⟨l.blk, l.base + e.off, l.cap - e.o⟩ := by
  unfold pushE at h
  rw [whn_some, bnd_some] at h
  obtain ⟨h1, a1, h2, h3⟩ := h
  cases h3
  have e1 := beq_true h1
  subst e1
  refine ⟨⟨Nat.le_succ _, fun i hi => by rw [T.set_spec h2, if_neg (by omega)]⟩, fun ρ l hl => ?_⟩
  unfold rhoOf
  rw [if_pos (Nat.lt_succ_self _), T.set_spec h2, if_pos rfl]
  simp [hl]
def MOk (m : MF) : Prop := ∀ {c v : SVal} {n n' : Nat} {a a' : T Ent}, m c v n a = some (n', a') → Grows n a n' a' ∧ ∀ {ρ : Val} {x : Value}, den ρ v = some x → den (rhoOf ρ a' n') c = some x
theorem same_ok {n n' : Nat} {a a' : T Ent} {c : SVal} (h : some (n, a) = some (n', a')) (hc : ∀ ρ ρ', den ρ c = den ρ' c) : Grows n a n' a' ∧ ∀ {ρ : Val} {x : Value}, den ρ c = some x → den (rhoOf ρ a' n') c = some x := by
  cases h
  exact ⟨Grows.refl _ _, fun {ρ x} h => by rw [hc _ ρ]; exact h⟩
theorem m0_ok : MOk m0 := by
  intro c v n n' a a' h
  unfold m0 at h
  split at h
  · rw [whn_some] at h
    have e := eq_of_beq h.1
    subst e
    exact same_ok h.2 fun _ _ => rfl
  · rw [whn_some, whn_some] at h
    have e := kEq_eq h.1
    have e2 := h.2.1
    rw [eqI_eq, decide_eq_true_iff] at e2
    subst e e2
    exact same_ok h.2.2 fun _ _ => rfl
  · rw [whn_some] at h
    have e := eq_of_beq h.1
    subst e
    exact same_ok h.2 fun _ _ => rfl
  · exact same_ok h fun _ _ => rfl
  · rw [whn_some] at h
    have e := beq_true h.1
    subst e
    obtain ⟨h1, h2⟩ := push_ok h.2
    refine ⟨h1, fun {ρ x} hx => ?_⟩
    simp only [den, Option.map_eq_some_iff] at hx ⊢
    obtain ⟨l, h3, h4⟩ := hx
    exact ⟨_, h2 ρ l h3, by rw [← h4]; simp⟩
  · exact same_ok h fun _ _ => rfl
  · rw [whn_some, whn_some, whn_some] at h
    have e1 := beq_true h.1
    have e2 := beq_true h.2.1
    have e3 := beq_true h.2.2.1
    subst e1 e2 e3
    obtain ⟨h1, h2⟩ := push_ok h.2.2.2
    refine ⟨h1, fun {ρ x} hx => ?_⟩
    simp only [den, Option.map_eq_some_iff] at hx ⊢
    obtain ⟨l, h3, h4⟩ := hx
    exact ⟨_, h2 ρ l h3, by rw [← h4]; simp⟩
  · rw [whn_some, whn_some, whn_some] at h
    have e1 := beq_true h.1
    have e2 := beq_true h.2.1
    have e3 := beq_true h.2.2.1
    subst e1 e2 e3
    obtain ⟨h1, h2⟩ := push_ok h.2.2.2
    refine ⟨h1, fun {ρ x} hx => ?_⟩
    simp only [den, Option.map_eq_some_iff] at hx ⊢
    obtain ⟨l, h3, h4⟩ := hx
    exact ⟨_, h2 ρ l h3, by rw [← h4]; simp⟩
  · exact same_ok h fun _ _ => rfl
  · exact same_ok h fun _ _ => rfl
  · exact same_ok h fun _ _ => rfl
  · cases h
theorem mLs_ok {m : MF} (hm : MOk m) : ∀ {cs vs : List SVal} {n n' : Nat} {a a' : T Ent}, mLs m cs vs n a = some (n', a') →
    Grows n a n' a' ∧ ∀ {ρ : Val} {xs : List Value}, denL ρ vs = some xs → denL (rhoOf ρ a' n') cs = some xs
  | [], [], n, n', a, a', h => by
    have h : some (n, a) = some (n', a') := h
    cases h
    exact ⟨Grows.refl _ _, fun h => h⟩
  | [], _ :: _, n, n', a, a', h => by
    have h : (none : Option (Nat × T Ent)) = some (n', a') := h
    cases h
  | _ :: _, [], n, n', a, a', h => by
    have h : (none : Option (Nat × T Ent)) = some (n', a') := h
    cases h
  | c :: cs, v :: vs, n, n', a, a', h => by
    have h : bnd (m c v n a) (fun p => mLs m cs vs p.1 p.2) = some (n', a') := h
    rw [bnd_some] at h
    obtain ⟨p, h1, h2⟩ := h
    obtain ⟨h3, h4⟩ := hm h1
    obtain ⟨h5, h6⟩ := mLs_ok hm h2
    refine ⟨h3.trans h5, fun {ρ xs} hx => ?_⟩
    obtain ⟨x, l, h7, h8, rfl⟩ := denL_cons.1 hx
    exact denL_cons.2 ⟨x, l, den_le (h5.le ρ) _ _ (h4 h7), h6 h8, rfl⟩
theorem mUp_ok [Fam] {m : MF} (hm : MOk m) : MOk (mUp m) := by
  intro c v n n' a a' h
  unfold mUp at h
  split at h
  · obtain ⟨h1, h2⟩ := mLs_ok hm h
    refine ⟨h1, fun {ρ x} hx => ?_⟩
    simp only [den, Option.map_eq_some_iff] at hx ⊢
    obtain ⟨l, h3, h4⟩ := hx
    exact ⟨l, h2 h3, h4⟩
  · obtain ⟨h1, h2⟩ := mLs_ok hm h
    refine ⟨h1, fun {ρ x} hx => ?_⟩
    simp only [den, Option.map_eq_some_iff] at hx ⊢
    obtain ⟨l, h3, h4⟩ := hx
    exact ⟨l, h2 h3, h4⟩
  · rw [whn_some, bnd_some] at h
    obtain ⟨h0, p, h1, h2⟩ := h
    have e := beq_true h0
    subst e
    obtain ⟨h3, h4⟩ := mLs_ok hm h1
    obtain ⟨h5, h6⟩ := mLs_ok hm h2
    refine ⟨h3.trans h5, fun {ρ x} hx => ?_⟩
    simp only [den, Option.bind_eq_some_iff, Option.map_eq_some_iff] at hx ⊢
    obtain ⟨l, h7, l', h8, h9⟩ := hx
    exact ⟨l, denL_le (h5.le ρ) _ _ (h4 h7), l', h6 h8, h9⟩
  · exact m0_ok h
theorem mF_ok [Fam] : MOk mF := mUp_ok (mUp_ok (mUp_ok m0_ok))

theorem slack_spec {s : Option Nat} {b : Blk} {e : Ent} (h : slackOk s b e = true) : ∀ sz, s = some sz → b.slack = some sz ∧ e.off = e.o * sz := by
  intro sz hs
  subst hs
  have h : @Bool.rec (fun _ => Bool) false (@Option.rec _ (fun _ => Bool) false (fun t => Nat.beq sz t) b.slack) (Nat.beq e.off (Nat.mul e.o sz)) = true := h
  cases h0 : Nat.beq e.off (Nat.mul e.o sz) with
  | false => rw [h0] at h; cases h
  | true =>
    rw [h0] at h
    cases hb : b.slack with
    | none => rw [hb] at h; cases h
    | some t => rw [hb] at h; exact ⟨by rw [beq_true h], beq_true h0⟩

theorem mRows_ok [Fam] {st : St} : ∀ {rows : List Row0} {j n n' : Nat} {a a' : T Ent}, mRows st rows j n a = some (n', a') →
    Grows n a n' a' ∧ ∀ {ρ : Val} {w : World}, Rep ρ st.look w → ∀ i row, rows[i]? = some row → ∃ l, rhoOf ρ a' n' (j + i) = some l ∧ ∀ c : T SVal, (∀ x, x < row.cells.length → c.get x = row.cells[x]?) →
      RowAt (rhoOf ρ a' n') ⟨row.cells.length, c, 0, row.slack, false⟩ l w
  | [], j, n, n', a, a', h => by
    have h : some (n, a) = some (n', a') := h
    cases h
    exact ⟨Grows.refl _ _, fun _ i row hi => by simp at hi⟩
  | r :: rows, j, n, n', a, a', h => by
    have h : (whn (Nat.ble (Nat.succ j) n) <| bnd (a.get j) fun e => bnd (st.blk e.k) fun b => whn (Nat.ble (Nat.add e.off r.cells.length) b.n) <| whn (slackOk r.slack b e) <|
      bnd (readFrom b.c r.cells.length e.off) fun l => bnd (mLs mF r.cells l n a) fun p => mRows st rows (Nat.succ j) p.1 p.2) = some (n', a') := h
    rw [whn_some, bnd_some] at h
    obtain ⟨h0, e, h1, h⟩ := h
    rw [bnd_some] at h
    obtain ⟨b, h2, h⟩ := h
    rw [whn_some, whn_some, bnd_some] at h
    obtain ⟨h3, h4, ls, h5, h⟩ := h
    rw [bnd_some] at h
    obtain ⟨p, h6, h7⟩ := h
    obtain ⟨g1, g2⟩ := mLs_ok mF_ok h6
    obtain ⟨g3, g4⟩ := mRows_ok h7
    have hj := ble_true h0
    have hle := ble_true h3
    refine ⟨g1.trans g3, fun {ρ w} hr i row hi => ?_⟩
    cases i with
    | succ i =>
      obtain ⟨l, k1, k2⟩ := g4 hr i row (by simpa using hi)
      exact ⟨l, by rw [← k1]; congr 1; omega, k2⟩
    | zero =>
      simp at hi
      subst hi
      obtain ⟨l0, k1, k2⟩ := hr.lies _ _ (blk_spec h2)
      have hrho : rhoOf ρ a' n' (j + 0) = some ⟨l0.blk, l0.base + e.off, l0.cap - e.o⟩ := by
        have hn := (g1.trans g3).1
        unfold rhoOf
        rw [if_pos (show j + 0 < n' by omega), (g1.trans g3).2 (j + 0) (by omega), Nat.add_zero, h1]
        simp [k1]
      refine ⟨_, hrho, fun c hc => ?_⟩
      obtain ⟨vs, m1, m2, m3⟩ := row_read k2 h5 hle
      have m4 := denL_le (g3.le ρ) _ _ (g2 m1)
      obtain ⟨cs, el, fz, q1, q2, q3, q4⟩ := k2
      refine ⟨cs, el, fz, q1, fun i hi => ?_, fun h => absurd h (by simp), fun sz hsz => ⟨?_, fun h => absurd h (by simp)⟩⟩
      · have hi : i < r.cells.length := hi
        obtain ⟨v, m5, m6⟩ := denL_get m4 (List.getElem?_eq_getElem hi)
        refine ⟨r.cells[i], v, by rw [hc i hi]; exact List.getElem?_eq_getElem hi, m6, ?_⟩
        have := m3 i v m5
        simp only [World.cell?, q1] at this
        exact this
      · obtain ⟨s1, s2⟩ := slack_spec h4 sz hsz
        have := (q4 sz s1).1
        show r.cells.length ≤ (l0.cap - e.o) * sz
        have hle : e.off + r.cells.length ≤ b.n := hle
        rw [Nat.sub_mul]
        omega

/-- names of the fact, names that are there -/
structure RenOk (a : T Ent) (K nx : Nat) (ρ2 ρ' : Val) : Prop where
  old : ∀ k e l, k < K → a.get k = some e → ρ2 k = some l → ∃ l0, ρ' e.k = some l0 ∧ l = ⟨l0.blk, l0.base + e.off, l0.cap - e.o⟩
  new : ∀ k l, K ≤ k → ρ2 k = some l → ρ' (nx + (k - K)) = some l
def ROk (ρ2 ρ' : Val) (r : RF) : Prop := ∀ {v s : SVal} {x : Value}, r v = some s → den ρ2 v = some x → den ρ' s = some x
theorem r0_ok {a : T Ent} {K : Nat} {nx : Nat} {ρ2 : Val} {ρ' : Val} (hR : RenOk a K nx ρ2 ρ') : ROk ρ2 ρ' (r0 a K nx) := by
  intro v s x h hx
  cases v with
  | ptr k off =>
    simp only [den, Option.map_eq_some_iff] at hx
    obtain ⟨l, h1, h2⟩ := hx
    have h : @Bool.rec (fun _ => Option SVal) (some (.ptr (Nat.add nx (Nat.sub k K)) off)) (bnd (a.get k) fun e => some (.ptr e.k (Nat.add e.off off))) (Nat.ble (Nat.succ k) K) = some s := h
    cases hb : Nat.ble (Nat.succ k) K with
    | false =>
      simp only [hb] at h
      cases h
      have := hR.new k l (by have := ble_false hb; omega) h1
      simp only [den, Option.map_eq_some_iff]
      exact ⟨l, this, h2⟩
    | true =>
      simp only [hb] at h
      rw [bnd_some] at h
      obtain ⟨e, h3, h4⟩ := h
      cases h4
      obtain ⟨l0, h5, rfl⟩ := hR.old k e l (ble_true hb) h3 h1
      simp only [den, Option.map_eq_some_iff]
      refine ⟨l0, h5, ?_⟩
      rw [← h2]
      simp [Nat.add_assoc]
  | sl k off len cap =>
    cases cap with
    | ex c =>
      simp only [den, Option.map_eq_some_iff] at hx
      obtain ⟨l, h1, h2⟩ := hx
      have h : @Bool.rec (fun _ => Option SVal) (some (.sl (Nat.add nx (Nat.sub k K)) off len (.ex c))) (bnd (a.get k) fun e => some (.sl e.k (Nat.add e.off off) len (.ex c))) (Nat.ble (Nat.succ k) K) = some s := h
      cases hb : Nat.ble (Nat.succ k) K with
      | false =>
        simp only [hb] at h
        cases h
        have := hR.new k l (by have := ble_false hb; omega) h1
        simp only [den, Option.map_eq_some_iff]
        exact ⟨l, this, h2⟩
      | true =>
        simp only [hb] at h
        rw [bnd_some] at h
        obtain ⟨e, h3, h4⟩ := h
        cases h4
        obtain ⟨l0, h5, rfl⟩ := hR.old k e l (ble_true hb) h3 h1
        simp only [den, Option.map_eq_some_iff]
        refine ⟨l0, h5, ?_⟩
        rw [← h2]
        simp [Nat.add_assoc]
    | rest o =>
      simp only [den, Option.map_eq_some_iff] at hx
      obtain ⟨l, h1, h2⟩ := hx
      have h : @Bool.rec (fun _ => Option SVal) (some (.sl (Nat.add nx (Nat.sub k K)) off len (.rest o))) (bnd (a.get k) fun e => some (.sl e.k (Nat.add e.off off) len (.rest (Nat.add e.o o)))) (Nat.ble (Nat.succ k) K) = some s := h
      cases hb : Nat.ble (Nat.succ k) K with
      | false =>
        simp only [hb] at h
        cases h
        have := hR.new k l (by have := ble_false hb; omega) h1
        simp only [den, Option.map_eq_some_iff]
        exact ⟨l, this, h2⟩
      | true =>
        simp only [hb] at h
        rw [bnd_some] at h
        obtain ⟨e, h3, h4⟩ := h
        cases h4
        obtain ⟨l0, h5, rfl⟩ := hR.old k e l (ble_true hb) h3 h1
        simp only [den, Option.map_eq_some_iff]
        refine ⟨l0, h5, ?_⟩
        rw [← h2]
        simp [Nat.add_assoc, Nat.sub_sub]
  | bool b => cases h; exact hx
  | int k n => cases h; exact hx
  | str l => cases h; exact hx
  | nilPtr => cases h; exact hx
  | nilSl => cases h; exact hx
  | nilMap => cases h; exact hx
  | nilFn => cases h; exact hx
  | nilIface => cases h; exact hx
  | map k => cases h
  | func f x y => cases h
  | agg l => cases h
  | tup l => cases h
theorem rLs_ok {ρ2 : Val} {ρ' : Val} {r : RF} (hr : ROk ρ2 ρ' r) : ∀ {cs vs : List SVal} {xs : List Value}, rLs r cs = some vs → denL ρ2 cs = some xs → denL ρ' vs = some xs
  | [], vs, xs, h, hx => by
    have h : some [] = some vs := h
    cases h
    exact hx
  | c :: cs, vs, xs, h, hx => by
    have h : bnd (r c) (fun v => bnd (rLs r cs) fun l => some (v :: l)) = some vs := h
    rw [bnd_some] at h
    obtain ⟨v, h1, h⟩ := h
    rw [bnd_some] at h
    obtain ⟨l, h2, h3⟩ := h
    cases h3
    obtain ⟨x, xl, h4, h5, rfl⟩ := denL_cons.1 hx
    exact denL_cons.2 ⟨x, xl, hr h1 h4, rLs_ok hr h2 h5, rfl⟩
theorem rLs_length {r : RF} : ∀ {cs vs : List SVal}, rLs r cs = some vs → vs.length = cs.length
  | [], vs, h => by
    have h : some [] = some vs := h
    cases h
    rfl
  | c :: cs, vs, h => by
    have h : bnd (r c) (fun v => bnd (rLs r cs) fun l => some (v :: l)) = some vs := h
    rw [bnd_some] at h
    obtain ⟨v, h1, h⟩ := h
    rw [bnd_some] at h
    obtain ⟨l, h2, h3⟩ := h
    cases h3
    simp [rLs_length h2]
theorem rUp_ok {ρ2 : Val} {ρ' : Val} {r r' : RF} (hr : ROk ρ2 ρ' r) (hr' : ROk ρ2 ρ' r') : ROk ρ2 ρ' (rUp r r') := by
  intro v s x h hx
  unfold rUp at h
  split at h
  · rw [bnd_some] at h
    obtain ⟨l, h1, h2⟩ := h
    cases h2
    simp only [den, Option.map_eq_some_iff] at hx ⊢
    obtain ⟨xs, h3, h4⟩ := hx
    exact ⟨xs, rLs_ok hr h1 h3, h4⟩
  · rw [bnd_some] at h
    obtain ⟨l, h1, h2⟩ := h
    cases h2
    simp only [den, Option.map_eq_some_iff] at hx ⊢
    obtain ⟨xs, h3, h4⟩ := hx
    exact ⟨xs, rLs_ok hr h1 h3, h4⟩
  · rw [bnd_some] at h
    obtain ⟨l, h1, h⟩ := h
    rw [bnd_some] at h
    obtain ⟨l', h2, h3⟩ := h
    cases h3
    simp only [den, Option.bind_eq_some_iff, Option.map_eq_some_iff] at hx ⊢
    obtain ⟨xs, h4, ys, h5, h6⟩ := hx
    exact ⟨xs, rLs_ok hr h1 h4, ys, rLs_ok hr h2 h5, h6⟩
  · exact hr' h hx
theorem rF_ok {a : T Ent} {K : Nat} {nx : Nat} {ρ2 : Val} {ρ' : Val} (hR : RenOk a K nx ρ2 ρ') : ROk ρ2 ρ' (rF a K nx) := rUp_ok (rUp_ok (rUp_ok (r0_ok hR) (r0_ok hR)) (r0_ok hR)) (r0_ok hR)

theorem andB_true {a b : Bool} (h : andB a b = true) : a = true ∧ b = true := by
  unfold andB at h
  cases a with
  | false => cases h
  | true => exact ⟨rfl, h⟩
def SOk (ρ1 ρ2 : Val) (m : SF) : Prop := ∀ {v c : SVal} {x : Value}, m v c = true → den ρ1 v = some x → den ρ2 c = some x
theorem s0_ok {ns : List Nat} {K : Nat} {ρ1 : Val} {ρ2 : Val} (hN : ∀ k k' l, sName ns K k k' = true → ρ1 k = some l → ρ2 k' = some l) : SOk ρ1 ρ2 (s0 ns K) := by
  intro v c x h hx
  unfold s0 at h
  split at h
  · have e := eq_of_beq h
    subst e
    exact hx
  · obtain ⟨h1, h2⟩ := andB_true h
    have e := kEq_eq h1
    rw [eqI_eq, decide_eq_true_iff] at h2
    subst e h2
    exact hx
  · have e := eq_of_beq h
    subst e
    exact hx
  · exact hx
  · obtain ⟨h1, h2⟩ := andB_true h
    have e := beq_true h1
    subst e
    simp only [den, Option.map_eq_some_iff] at hx ⊢
    obtain ⟨l, h3, h4⟩ := hx
    exact ⟨l, hN _ _ l h2 h3, h4⟩
  · exact hx
  · obtain ⟨h1, h⟩ := andB_true h
    obtain ⟨h2, h⟩ := andB_true h
    obtain ⟨h3, h4⟩ := andB_true h
    have e1 := beq_true h1
    have e2 := beq_true h2
    have e3 := beq_true h3
    subst e1 e2 e3
    simp only [den, Option.map_eq_some_iff] at hx ⊢
    obtain ⟨l, h5, h6⟩ := hx
    exact ⟨l, hN _ _ l h4 h5, h6⟩
  · obtain ⟨h1, h⟩ := andB_true h
    obtain ⟨h2, h⟩ := andB_true h
    obtain ⟨h3, h4⟩ := andB_true h
    have e1 := beq_true h1
    have e2 := beq_true h2
    have e3 := beq_true h3
    subst e1 e2 e3
    simp only [den, Option.map_eq_some_iff] at hx ⊢
    obtain ⟨l, h5, h6⟩ := hx
    exact ⟨l, hN _ _ l h4 h5, h6⟩
  · exact hx
  · exact hx
  · exact hx
  · cases h
theorem sLs_ok {ρ1 : Val} {ρ2 : Val} {m : SF} (hm : SOk ρ1 ρ2 m) : ∀ {vs cs : List SVal} {xs : List Value}, sLs m vs cs = true → denL ρ1 vs = some xs → denL ρ2 cs = some xs
  | [], [], xs, h, hx => hx
  | [], _ :: _, xs, h, hx => by
    have h : false = true := h
    cases h
  | _ :: _, [], xs, h, hx => by
    have h : false = true := h
    cases h
  | v :: vs, c :: cs, xs, h, hx => by
    have h : andB (m v c) (sLs m vs cs) = true := h
    obtain ⟨h1, h2⟩ := andB_true h
    obtain ⟨x, l, h3, h4, rfl⟩ := denL_cons.1 hx
    exact denL_cons.2 ⟨x, l, hm h1 h3, sLs_ok hm h2 h4, rfl⟩
theorem sUp_ok {ρ1 : Val} {ρ2 : Val} {m m' : SF} (hm : SOk ρ1 ρ2 m) (hm' : SOk ρ1 ρ2 m') : SOk ρ1 ρ2 (sUp m m') := by
  intro v c x h hx
  unfold sUp at h
  split at h
  · simp only [den, Option.map_eq_some_iff] at hx ⊢
    obtain ⟨xs, h3, h4⟩ := hx
    exact ⟨xs, sLs_ok hm h h3, h4⟩
  · simp only [den, Option.map_eq_some_iff] at hx ⊢
    obtain ⟨xs, h3, h4⟩ := hx
    exact ⟨xs, sLs_ok hm h h3, h4⟩
  · obtain ⟨h1, h⟩ := andB_true h
    obtain ⟨h2, h3⟩ := andB_true h
    have e := beq_true h1
    subst e
    simp only [den, Option.bind_eq_some_iff, Option.map_eq_some_iff] at hx ⊢
    obtain ⟨xs, h4, ys, h5, h6⟩ := hx
    exact ⟨xs, sLs_ok hm h2 h4, ys, sLs_ok hm h3 h5, h6⟩
  · exact hm' h hx
theorem sF_ok [Fam] {ns : List Nat} {K : Nat} {ρ1 : Val} {ρ2 : Val} (hN : ∀ k k' l, sName ns K k k' = true → ρ1 k = some l → ρ2 k' = some l) : SOk ρ1 ρ2 (sF ns K) := sUp_ok (sUp_ok (sUp_ok (s0_ok hN) (s0_ok hN)) (s0_ok hN)) (s0_ok hN)
end Ev
/-
  A fact that was tested holds wherever its contents lie: the call itself.
-/
namespace Ev
open Go Go.RowKit

/-- the rows that a fact adds -/
theorem addOut_ok {a : T Ent} {K nx : Nat} : ∀ {rows : List Row1} {st st' : St}, addOut a K nx rows st = some st' → Sta st st' ∧ st'.next = st.next + rows.length ∧ st'.ban = st.ban ∧
    (∀ m, m < st.next → st'.heap.get m = st.heap.get m) ∧
    (∀ i r, rows[i]? = some r → ∃ cs c, rLs (rF a K nx) r.cells = some cs ∧ (∀ x, x < cs.length → c.get x = cs[x]?) ∧ st'.heap.get (st.next + i) = some (.cells ⟨cs.length, c, r.elem, r.slack, true⟩))
  | [], st, st', h => by
    have h : some st = some st' := h
    cases h
    exact ⟨Sta.refl _, rfl, rfl, fun _ _ => rfl, fun i r hi => by simp at hi⟩
  | r :: rows, st, st', h => by
    have h : bnd (rLs (rF a K nx) r.cells) (fun cs => bnd (newRowS st cs r.elem r.slack) fun p => addOut a K nx rows p.2) = some st' := h
    rw [bnd_some] at h
    obtain ⟨cs, h1, h⟩ := h
    rw [bnd_some] at h
    obtain ⟨p, h2, h3⟩ := h
    obtain ⟨k1, k2, k3, k4, k5⟩ := addOut_ok h3
    unfold newRowS at h2
    rw [bnd_some] at h2
    obtain ⟨c, h4, h5⟩ := h2
    have h5 : st.fresh (.cells ⟨cs.length, c, r.elem, r.slack, true⟩) = some (p.1, p.2) := h5
    obtain ⟨f1, f2, f3, f4, f5, f6⟩ := fresh_spec h5
    refine ⟨(fresh_sta h5).trans k1, by rw [k2, f2]; simp; omega, k3.trans f3, fun m hm => by rw [k4 m (by omega), f6, if_neg (by omega)], fun i r' hi => ?_⟩
    cases i with
    | succ i =>
      obtain ⟨cs', c', q1, q2, q3⟩ := k5 i r' (by simpa using hi)
      exact ⟨cs', c', q1, q2, by rw [← q3, f2]; congr 1; omega⟩
    | zero =>
      simp at hi
      subst hi
      refine ⟨cs, c, h1, fun x hx => ?_, ?_⟩
      · rw [T.lay_spec h4 x, if_pos ⟨Nat.zero_le _, by omega⟩]
        simp
      · rw [k4 _ (by omega), f6, if_pos (by omega)]

/-- the state of a fact -/
theorem pstRows_ok : ∀ {rows : List Row0} {j : Nat} {t t' : T SObj}, pstRows rows j t = some t' → ∀ m, (m < j ∨ j + rows.length ≤ m → t'.get m = t.get m) ∧
    (∀ i r, rows[i]? = some r → m = j + i → ∃ c, (∀ x, x < r.cells.length → c.get x = r.cells[x]?) ∧ t'.get m = some (.cells ⟨r.cells.length, c, 0, r.slack, false⟩))
  | [], j, t, t', h, m => by
    have h : some t = some t' := h
    cases h
    exact ⟨fun _ => rfl, fun i r hi => by simp at hi⟩
  | r :: rows, j, t, t', h, m => by
    have h : bnd (T.lay T.nil 0 r.cells) (fun c => bnd (t.set j (.cells ⟨r.cells.length, c, 0, r.slack, false⟩)) fun t' => pstRows rows (Nat.succ j) t') = some t' := h
    rw [bnd_some] at h
    obtain ⟨c, h1, h⟩ := h
    rw [bnd_some] at h
    obtain ⟨t1, h2, h3⟩ := h
    obtain ⟨k1, k2⟩ := pstRows_ok h3 m
    have k0 := T.set_spec h2 m
    refine ⟨fun hm => ?_, fun i r' hi hm => ?_⟩
    · simp at hm
      rw [k1 (by omega), k0, if_neg (by omega)]
    · cases i with
      | succ i => exact k2 i r' (by simpa using hi) (by omega)
      | zero =>
        simp at hi
        subst hi
        refine ⟨c, fun x hx => ?_, ?_⟩
        · rw [T.lay_spec h1 x, if_pos ⟨Nat.zero_le _, by omega⟩]
          simp
        · rw [k1 (by omega), k0, if_pos (by omega)]
theorem pst_ok {rows : List Row0} {st : St} (h : pst rows = some st) : st.next = rows.length ∧ st.ban = [] ∧ Wf st ∧
    ∀ k o, st.look k = some o → ∃ r c, rows[k]? = some r ∧ o = .cells ⟨r.cells.length, c, 0, r.slack, false⟩ ∧ ∀ x, x < r.cells.length → c.get x = r.cells[x]? := by
  unfold pst at h
  rw [bnd_some] at h
  obtain ⟨t, h1, h2⟩ := h
  cases h2
  have out : ∀ k, rows.length ≤ k → t.get k = none := fun k hk => by
    rw [(pstRows_ok h1 k).1 (by omega)]
    rfl
  refine ⟨rfl, rfl, ⟨out, fun k hb => by cases hb⟩, fun k o ho => ?_⟩
  have ho := (look_of ho).1
  rcases Nat.lt_or_ge k rows.length with hk | hk
  · obtain ⟨c, h3, h4⟩ := (pstRows_ok h1 k).2 k rows[k] (List.getElem?_eq_getElem hk) (by omega)
    have ho : t.get k = some o := ho
    rw [h4] at ho
    cases ho
    exact ⟨rows[k], c, List.getElem?_eq_getElem hk, rfl, h3⟩
  · have ho : t.get k = some o := ho
    rw [out k hk] at ho
    cases ho

theorem notIn_ok {n : Nat} : ∀ {l : List Nat}, notIn n l = true → n ∉ l
  | [], _ => by simp
  | m :: l, h => by
    have h : @Bool.rec (fun _ => Bool) (notIn n l) false (Nat.beq n m) = true := h
    cases hb : Nat.beq n m with
    | true => rw [hb] at h; cases h
    | false =>
      rw [hb] at h
      have := beq_false hb
      have := notIn_ok h
      simp; exact ⟨by assumption, by assumption⟩
theorem apart_ok {K : Nat} : ∀ {l : List Nat}, apart K l = true → l.Nodup ∧ ∀ n ∈ l, K ≤ n
  | [], _ => by simp
  | m :: l, h => by
    have h : @Bool.rec (fun _ => Bool) false (@Bool.rec (fun _ => Bool) false (apart K l) (notIn m l)) (Nat.ble K m) = true := h
    cases h1 : Nat.ble K m with
    | false => rw [h1] at h; cases h
    | true =>
      cases h2 : notIn m l with
      | false => rw [h1, h2] at h; cases h
      | true =>
        rw [h1, h2] at h
        obtain ⟨h3, h4⟩ := apart_ok h
        refine ⟨List.nodup_cons.2 ⟨notIn_ok h2, h3⟩, fun n hn => ?_⟩
        rcases List.mem_cons.1 hn with e | e
        · rw [e]; exact ble_true h1
        · exact h4 n e
theorem outRows_ok {ns : List Nat} {K : Nat} {st : St} : ∀ {l : List Nat} {rs : List Row1}, outRows ns K st l rs = some () → l.length = rs.length ∧ ∀ (i n : Nat) (r : Row1), l[i]? = some n → rs[i]? = some r → outRow ns K st n r = some ()
  | [], [], _ => ⟨rfl, fun i n r h => by simp at h⟩
  | [], _ :: _, h => by
    have h : (none : Option Unit) = some () := h
    cases h
  | _ :: _, [], h => by
    have h : (none : Option Unit) = some () := h
    cases h
  | n :: l, r :: rs, h => by
    have h : bnd (outRow ns K st n r) (fun _ => outRows ns K st l rs) = some () := h
    rw [bnd_some] at h
    obtain ⟨u, h1, h2⟩ := h
    obtain ⟨h3, h4⟩ := outRows_ok h2
    refine ⟨by simp [h3], fun i n' r' hi hi' => ?_⟩
    cases i with
    | zero =>
      simp at hi hi'
      subst hi hi'
      exact h1
    | succ i => exact h4 i n' r' (by simpa using hi) (by simpa using hi')
theorem oEq_ok {a b : Option Nat} (h : oEq a b = true) : a = b := by
  cases a with
  | none =>
    cases b with
    | none => rfl
    | some y => cases h
  | some x =>
    cases b with
    | none => cases h
    | some y => rw [beq_true (show Nat.beq x y = true from h)]
theorem outRow_ok {ns : List Nat} {K : Nat} {st : St} {n : Nat} {r : Row1} (h : outRow ns K st n r = some ()) :
    ∃ b l, st.look n = some (.cells b) ∧ b.own = true ∧ b.n = r.cells.length ∧ b.elem = r.elem ∧ b.slack = r.slack ∧ readFrom b.c b.n 0 = some l ∧ sLs (sF ns K) l r.cells = true := by
  unfold outRow at h
  rw [bnd_some] at h
  obtain ⟨b, h1, h⟩ := h
  rw [whn_some, whn_some, whn_some, whn_some, bnd_some] at h
  obtain ⟨h2, h3, h4, h5, l, h6, h7⟩ := h
  rw [whn_some] at h7
  exact ⟨b, l, blk_spec h1, h2, beq_true h3, beq_true h4, oEq_ok h5, h6, h7.1⟩

theorem Call1.mono {P : Program} {f : FuncId} {args : Array Value} {w : World} {R R' : Value → World → Prop} (h : Call1 P f args w R) (hR : ∀ v w', R v w' → R' v w') : Call1 P f args w R' :=
  fun o a next Q hk => h o a next Q fun v w' hv => hk v w' (hR v w' hv)
/-- a way to say that a call hands back what R says -/
abbrev CallK := FuncId → Array Value → World → (Value → World → Prop) → Prop
def CallG [Fam] (C : CallK) (f : FuncId) (x : List SVal → St → M (SVal × St)) : Prop :=
  ∀ args st s st', x args st = some (s, st') → Sta st st' ∧ ∀ {ρ : Val} {w : World}, Rep ρ st.look w → Wf st → Free ρ st.next st'.next → ∀ {vs : List Value}, denL ρ args = some vs →
    C f vs.toArray w fun v w' => ∃ ρ', Good st st' s ρ w ρ' v w'
def CallR (P : Program) : CallK := fun f args w R => Calls P f args w fun e w' => ∃ v, e = .returned v ∧ R v w'
theorem CallR.mono {P : Program} {f : FuncId} {args : Array Value} {w : World} {R R' : Value → World → Prop} (h : CallR P f args w R) (hR : ∀ v w', R v w' → R' v w') : CallR P f args w R' :=
  Calls.mono h fun _ w' ⟨v, he, hv⟩ => ⟨v, he, hR v w' hv⟩

theorem useF_okG [Fam] {C : CallK} (hC : ∀ {f : FuncId} {args : Array Value} {w : World} {R R' : Value → World → Prop}, C f args w R → (∀ v w', R v w' → R' v w') → C f args w R') {ns : List Nat} {x : List SVal → St → M (SVal × St)} {fc : Fct} (hx : CallG C fc.f x) {p0 : St} (hp : pst fc.rows = some p0) {q : SVal × St} (hq : x fc.args p0 = some q)
    (hres : sF ns fc.rows.length q.1 fc.res = true) (hout : outRows ns fc.rows.length q.2 ns fc.out = some ()) (hap : apart fc.rows.length ns = true) : CallG C fc.f (useF fc) := by
  intro args st s st' h
  unfold useF at h
  rw [bnd_some] at h
  obtain ⟨p, h1, h⟩ := h
  rw [bnd_some] at h
  obtain ⟨⟨n', a⟩, h2, h⟩ := h
  rw [whn_some, bnd_some] at h
  obtain ⟨h3, st1, h4, h⟩ := h
  rw [bnd_some] at h
  obtain ⟨s1, h5, h6⟩ := h
  cases h6
  have h3 := beq_true h3
  have h3 : n' = fc.rows.length := h3
  subst h3
  obtain ⟨g1, g2⟩ := mLs_ok mF_ok h1
  obtain ⟨g3, g4⟩ := mRows_ok h2
  obtain ⟨o1, o2, o3, o4, o5⟩ := addOut_ok h4
  obtain ⟨p1, p2, p3, p4⟩ := pst_ok hp
  obtain ⟨hsta, hcall⟩ := hx _ _ _ _ (show x fc.args p0 = some (q.1, q.2) from hq)
  obtain ⟨n1, n2⟩ := apart_ok hap
  obtain ⟨l1, l2⟩ := outRows_ok hout
  refine ⟨o1, fun {ρ w} hr hwf hfree vs hvs => ?_⟩
  let ρ0 := rhoOf ρ a fc.rows.length
  have hρ0 : ∀ k, fc.rows.length ≤ k → ρ0 k = none := fun k hk => by
    show rhoOf ρ a fc.rows.length k = none
    unfold rhoOf
    rw [if_neg (by omega)]
  have hargs : denL ρ0 fc.args = some vs := denL_le (g3.le ρ) _ _ (g2 hvs)
  have hrep : Rep ρ0 p0.look w := by
    refine ⟨fun k o hk => ?_, fun k j o o' l l' hk hj hne how => ?_, fun k t hk => ?_⟩
    · obtain ⟨r, c, h7, rfl, h9⟩ := p4 k o hk
      obtain ⟨l, h10, h11⟩ := g4 hr k r h7
      exact ⟨l, by rw [← h10]; congr 1; omega, h11 c h9⟩
    · obtain ⟨r, c, h7, rfl, h9⟩ := p4 k o hk
      cases how
    · obtain ⟨r, c, h7, h8, h9⟩ := p4 _ _ hk
      cases h8
  refine hC (hcall hrep p3 (fun k hk _ => hρ0 k (by rw [← p1]; exact hk)) hargs) ?_
  rintro v w' ⟨ρ1, gval, grep, gstep⟩
  -- names
  let m := ns.length
  let ρ' : Val := fun k => if st.next ≤ k ∧ k < st.next + m then (ns[k - st.next]?).bind ρ1 else ρ k
  let ρ2 : Val := fun k => if k < fc.rows.length then ρ0 k else (ns[k - fc.rows.length]?).bind ρ1
  have hm : st'.next = st.next + m := by rw [o2, ← l1]
  have hle : Le ρ ρ' := fun k l hk => by
    show (if st.next ≤ k ∧ k < st.next + m then (ns[k - st.next]?).bind ρ1 else ρ k) = some l
    rw [if_neg]
    · exact hk
    · rintro ⟨h7, h8⟩
      rw [hfree k h7 (by omega)] at hk
      cases hk
  have hnew : ∀ i, i < m → ρ' (st.next + i) = (ns[i]?).bind ρ1 := fun i hi => by
    show (if st.next ≤ st.next + i ∧ st.next + i < st.next + m then (ns[st.next + i - st.next]?).bind ρ1 else ρ (st.next + i)) = _
    rw [if_pos ⟨by omega, by omega⟩]
    congr 2
    omega
  have hR : RenOk a fc.rows.length st.next ρ2 ρ' := by
    refine ⟨fun k e l hk he hl => ?_, fun k l hk hl => ?_⟩
    · have hl : (if k < fc.rows.length then ρ0 k else (ns[k - fc.rows.length]?).bind ρ1) = some l := hl
      rw [if_pos hk] at hl
      have hl : rhoOf ρ a fc.rows.length k = some l := hl
      unfold rhoOf at hl
      rw [if_pos hk, he] at hl
      simp only [Option.bind_some, Option.map_eq_some_iff] at hl
      obtain ⟨l0, h7, h8⟩ := hl
      exact ⟨l0, hle _ _ h7, h8.symm⟩
    · have hl : (if k < fc.rows.length then ρ0 k else (ns[k - fc.rows.length]?).bind ρ1) = some l := hl
      rw [if_neg (by omega)] at hl
      rw [hnew _ _]
      · exact hl
      · cases hi : ns[k - fc.rows.length]? with
        | none => rw [hi] at hl; cases hl
        | some n => exact (List.getElem?_eq_some_iff.1 hi).1
  have hN : ∀ k k' l, sName ns fc.rows.length k k' = true → ρ1 k = some l → ρ2 k' = some l := fun k k' l hs hl => by
    have hs : @Bool.rec (fun _ => Bool) (@Option.rec _ (fun _ => Bool) false (fun n => Nat.beq n k) (ns[Nat.sub k' fc.rows.length]?)) (Nat.beq k k') (Nat.ble (Nat.succ k') fc.rows.length) = true := hs
    show (if k' < fc.rows.length then ρ0 k' else (ns[k' - fc.rows.length]?).bind ρ1) = some l
    cases hb : Nat.ble (Nat.succ k') fc.rows.length with
    | true =>
      rw [hb] at hs
      have e := beq_true hs
      subst e
      have hlt : k < fc.rows.length := ble_true hb
      rw [if_pos hlt, ← gstep.off k (.inl (by rw [p1]; exact hlt))]
      exact hl
    | false =>
      rw [hb] at hs
      rw [if_neg (by have := ble_false hb; omega)]
      have hs : @Option.rec _ (fun _ => Bool) false (fun n => Nat.beq n k) (ns[k' - fc.rows.length]?) = true := hs
      cases hi : ns[k' - fc.rows.length]? with
      | none => rw [hi] at hs; cases hs
      | some n =>
        rw [hi] at hs
        rw [← beq_true hs] at hl
        exact hl
  have noOwn : ∀ r, ¬ Owns ρ0 p0.look r := by
    rintro r ⟨k, o, l, h7, h8, _⟩
    obtain ⟨r, c, _, rfl, _⟩ := p4 k o h7
    cases h8
  have kept : ∀ r, r < w.heap.size → w'.heap[r]? = w.heap[r]? := fun r hr' => gstep.kept r hr' (noOwn r)
  have oldLook : ∀ k o, st'.look k = some o → k < st.next → st.look k = some o := fun k o hk hlt => by
    rw [look_eq, o3, o4 k hlt] at hk
    rw [look_eq]
    exact hk
  -- a new row
  have newAt : ∀ k o, st'.look k = some o → st.next ≤ k → ∃ i n b, k = st.next + i ∧ i < m ∧ ns[i]? = some n ∧ q.2.look n = some (.cells b) ∧ b.own = true ∧ own o = true ∧ ∃ l, ρ1 n = some l ∧ ρ' k = some l ∧ ObjAt ρ' o l w' := by
    intro k o hk hge
    have hk1 := (look_of hk).1
    rcases Nat.lt_or_ge k (st.next + m) with hlt | hlt
    · have hi : k - st.next < fc.out.length := by rw [← l1]; omega
      have hi2 : k - st.next < ns.length := by rw [l1]; exact hi
      obtain ⟨cs, c, q1, q2, q3⟩ := o5 (k - st.next) fc.out[k - st.next] (List.getElem?_eq_getElem hi)
      rw [show st.next + (k - st.next) = k by omega, hk1] at q3
      cases q3
      have e1 := l2 (k - st.next) ns[k - st.next] fc.out[k - st.next] (List.getElem?_eq_getElem hi2) (List.getElem?_eq_getElem hi)
      obtain ⟨b, l, b1, b2, b3, b4, b5, b6, b7⟩ := outRow_ok e1
      obtain ⟨l0, r1, r2⟩ := grep.lies _ _ b1
      refine ⟨k - st.next, ns[k - st.next], b, by omega, hi2, List.getElem?_eq_getElem hi2, b1, b2, rfl, l0, r1, ?_, ?_⟩
      · have := hnew (k - st.next) hi2
        rw [show st.next + (k - st.next) = k by omega, List.getElem?_eq_getElem hi2] at this
        rw [this]
        exact r1
      · obtain ⟨vs', v1, v2, v3⟩ := row_read r2 b6 (by omega)
        have v4 := sLs_ok (sF_ok hN) b7 v1
        have v5 := rLs_ok (rF_ok hR) q1 v4
        have hlen := rLs_length q1
        obtain ⟨cs', el, fz, t1, t2, t3, t4⟩ := r2
        refine ⟨cs', el, fz, t1, fun i hi => ?_, fun _ => ?_, fun sz hsz => ?_⟩
        · have hi : i < cs.length := hi
          obtain ⟨v, v6, v7⟩ := denL_get v5 (List.getElem?_eq_getElem hi)
          refine ⟨cs[i], v, by rw [q2 i hi]; exact List.getElem?_eq_getElem hi, v7, ?_⟩
          have := v3 i v v6
          simp only [World.cell?, t1] at this
          simpa using this
        · obtain ⟨u1, u2, u3, u4⟩ := t3 b2
          exact ⟨u1, u2, u3.trans b4, fun hs => (u4 (b5.trans hs)).trans (b3.trans hlen.symm)⟩
        · obtain ⟨u1, u2⟩ := t4 sz (b5.trans hsz)
          exact ⟨by show cs.length ≤ l0.cap * sz; rw [hlen, ← b3]; exact u1, fun _ => u2 b2⟩
    · have : st'.heap.get k = none := (hwf.sta o1).none k (by omega)
      rw [this] at hk1
      cases hk1
  have newBlk : ∀ n b l, q.2.look n = some (.cells b) → b.own = true → ρ1 n = some l → w.heap.size ≤ l.blk := fun n b l h7 h8 h9 =>
    (gstep.owns l.blk ⟨n, _, l, h7, h8, h9, rfl⟩).elim (fun h => absurd h (noOwn _)) id
  have hstep : Step st.next st'.next ρ st.look w ρ' st'.look w' := by
    refine ⟨hle, fun k hk => ?_, gstep.os, gstep.tape, gstep.output, gstep.size, fun r hr' _ => kept r hr', fun r ⟨k, o, l, h7, h8, h9, h10⟩ => ?_, fun k o hk => ?_⟩
    · show (if st.next ≤ k ∧ k < st.next + m then (ns[k - st.next]?).bind ρ1 else ρ k) = ρ k
      rw [if_neg (by omega)]
    · rcases Nat.lt_or_ge k st.next with hlt | hge
      · have h11 := oldLook k o h7 hlt
        obtain ⟨l0, h12, _⟩ := hr.lies k o h11
        have h13 := hle _ _ h12
        rw [h9] at h13
        cases h13
        exact .inl ⟨k, o, l, h11, h8, h12, h10⟩
      · obtain ⟨i, n, b, _, _, _, h11, h12, _, l2', h13, h14, _⟩ := newAt k o h7 hge
        rw [h14] at h9
        cases h9
        have := newBlk n b _ h11 h12 h13
        exact .inr (by omega)
    · rcases Nat.lt_or_ge k st.next with hlt | hge
      · exact .inr (.inl (oldLook k o hk hlt))
      · obtain ⟨i, n, b, _, _, _, _, _, h8, _⟩ := newAt k o hk hge
        exact .inl h8
  have hrep' : Rep ρ' st'.look w' := by
    refine ⟨fun k o hk => ?_, fun k j o o' l l' hk hj hne how hl hl' => ?_, fun k t hk => ?_⟩
    · rcases Nat.lt_or_ge k st.next with hlt | hge
      · obtain ⟨l, h7, h8⟩ := hr.lies k o (oldLook k o hk hlt)
        exact ⟨l, hle _ _ h7, h8.keep hle (kept _ h8.lt)⟩
      · obtain ⟨i, n, b, _, _, _, _, _, _, l, _, h7, h8⟩ := newAt k o hk hge
        exact ⟨l, h7, h8⟩
    · rcases Nat.lt_or_ge k st.next with hlt | hge
      · obtain ⟨l0, h7, h8⟩ := hr.lies k o (oldLook k o hk hlt)
        rw [hle _ _ h7] at hl
        cases hl
        rcases Nat.lt_or_ge j st.next with hlt' | hge'
        · obtain ⟨l1', h9, h10⟩ := hr.lies j o' (oldLook j o' hj hlt')
          rw [hle _ _ h9] at hl'
          cases hl'
          exact hr.sep k j o o' _ _ (oldLook k o hk hlt) (oldLook j o' hj hlt') hne how h7 h9
        · obtain ⟨i, n, b, _, _, _, h10, h11, _, l2', h12, h13, _⟩ := newAt j o' hj hge'
          rw [h13] at hl'
          cases hl'
          have := newBlk n b _ h10 h11 h12
          have := h8.lt
          omega
      · obtain ⟨i, n, b, hki, him, hin, h10, h11, _, l2', h12, h13, _⟩ := newAt k o hk hge
        rw [h13] at hl
        cases hl
        have hb1 := newBlk n b _ h10 h11 h12
        rcases Nat.lt_or_ge j st.next with hlt' | hge'
        · obtain ⟨l1', h14, h15⟩ := hr.lies j o' (oldLook j o' hj hlt')
          rw [hle _ _ h14] at hl'
          cases hl'
          have := h15.lt
          omega
        · obtain ⟨i', n', b', hki', him', hin', h10', h11', _, l3', h12', h13', _⟩ := newAt j o' hj hge'
          rw [h13'] at hl'
          cases hl'
          refine grep.sep n n' _ _ _ _ h10 h10' (fun e => hne ?_) h11 h12 h12'
          subst e
          have e1 := (List.getElem?_eq_some_iff.1 hin)
          have e2 := (List.getElem?_eq_some_iff.1 hin')
          obtain ⟨e1a, e1b⟩ := e1
          obtain ⟨e2a, e2b⟩ := e2
          have hpw := List.pairwise_iff_getElem.1 n1
          have : i = i' := by
            rcases Nat.lt_trichotomy i i' with hlt | heq | hgt
            · exact absurd (e1b.trans e2b.symm) (hpw i i' e1a e2a hlt)
            · exact heq
            · exact absurd (e2b.trans e1b.symm) (hpw i' i e2a e1a hgt)
          omega
    · rcases Nat.lt_or_ge k st.next with hlt | hge
      · exact opq_old hr hstep (oldLook k _ hk hlt)
      · obtain ⟨i, n, b, _, _, _, _, _, h8, _⟩ := newAt k _ hk hge
        cases h8
  exact ⟨ρ', rF_ok hR h5 (sF_ok hN hres gval), hrep', hstep⟩

/-- facts hold -/
def FactsOk [Fam] (P : Program) (l : List Fct) : Prop := ∀ fc ∈ l, CallAt P fc.f (useF fc)
theorem FactsOk.nil [Fam] {P : Program} : FactsOk P [] := fun _ h => by simp at h
theorem FactsOk.cons [Fam] {P : Program} {fc : Fct} {l : List Fct} (h : CallAt P fc.f (useF fc)) (hl : FactsOk P l) : FactsOk P (fc :: l) := fun x hx => by
  rcases List.mem_cons.1 hx with e | e
  · rw [e]; exact h
  · exact hl x e
theorem tryF_ok [Fam] {P : Program} {f : FuncId} : ∀ {l : List Fct}, FactsOk P l → CallAt P f (tryF l f)
  | [], _ => fun args st s st' h => by cases h
  | fc :: l, hl => fun args st s st' h => by
    have h : @Bool.rec (fun _ => M (SVal × St)) (tryF l f args st) (@Option.rec _ (fun _ => M (SVal × St)) (tryF l f args st) some (useF fc args st)) (Nat.beq f fc.f) = some (s, st') := h
    have ih := tryF_ok (f := f) (l := l) fun x hx => hl x (List.mem_cons_of_mem _ hx)
    cases hb : Nat.beq f fc.f with
    | false => rw [hb] at h; exact ih args st s st' h
    | true =>
      rw [hb] at h
      have e := beq_true hb
      subst e
      cases hu : useF fc args st with
      | none => rw [hu] at h; exact ih args st s st' h
      | some r =>
        rw [hu] at h
        have h : some r = some (s, st') := h
        cases h
        exact hl fc List.mem_cons_self args st s st' hu
theorem withF_ok [Fam] {P : Program} {l : List Fct} (hl : FactsOk P l) {base : FuncId → Option (List SVal → St → M (SVal × St))} (hb : ExtOk P base) : ExtOk P (withF l base) := fun f x h => by
  unfold withF at h
  cases hf : base f with
  | none =>
    rw [hf] at h
    have h : some (tryF l f) = some x := h
    cases h
    exact tryF_ok hl
  | some y =>
    rw [hf] at h
    have h : some y = some x := h
    cases h
    exact hb f _ hf
theorem chk_okG [Fam] {P : Program} {E : Env} (hE : EnvOk P E) {C : CallK} (hC : ∀ {f : FuncId} {args : Array Value} {w : World} {R R' : Value → World → Prop}, C f args w R → (∀ v w', R v w' → R' v w') → C f args w R')
    (hfn : ∀ {ih : Rec}, CodeOk P ih.code → ∀ {f : FuncId} {fn : Func}, E.funcs.get f = some fn → CallG C f (callFn E ih fn))
    {base : FuncId → Option (List SVal → St → M (SVal × St))} (hb : ExtOk P base) {l : List Fct} (hl : FactsOk P l) {fc : Fct} {ns : List Nat} (h : chk E base l fc ns = true) : CallG C fc.f (useF fc) := by
  unfold chk at h
  cases hc : chkF E (withF l base) fc ns with
  | none => rw [hc] at h; cases h
  | some u =>
    unfold chkF at hc
    rw [bnd_some] at hc
    obtain ⟨fn, h1, hc⟩ := hc
    rw [bnd_some] at hc
    obtain ⟨p0, h2, hc⟩ := hc
    rw [bnd_some] at hc
    obtain ⟨q, h3, hc⟩ := hc
    rw [whn_some, bnd_some] at hc
    obtain ⟨h4, u', h5, h6⟩ := hc
    rw [whn_some] at h6
    exact useF_okG (C := C) hC (hfn (run_ok hE (withF_ok hl hb) 100000).1 h1) h2 h3 h4 h5 h6.1
theorem chk_ok [Fam] {P : Program} {E : Env} (hE : EnvOk P E) {base : FuncId → Option (List SVal → St → M (SVal × St))} (hb : ExtOk P base) {l : List Fct} (hl : FactsOk P l) {fc : Fct} {ns : List Nat} (h : chk E base l fc ns = true) : CallAt P fc.f (useF fc) :=
  chk_okG hE (C := Call1 P) (fun h hR => h.mono hR) (fun hcode _ _ hf => callFn_ok hE hcode hf) hb hl h
theorem chk_calls [Fam] {P : Program} {E : Env} (hE : EnvOk P E) {base : FuncId → Option (List SVal → St → M (SVal × St))} (hb : ExtOk P base) {l : List Fct} (hl : FactsOk P l) {fc : Fct} {ns : List Nat} (h : chk E base l fc ns = true) : CallG (CallR P) fc.f (useF fc) :=
  chk_okG hE (C := CallR P) (fun h hR => h.mono hR) (fun hcode _ _ hf _ _ _ _ h => callFn_calls hE hcode hf h) hb hl h
end Ev
/-
  Calls by contracts of their own: a row of the call's own that lies there already; a name that goes with its row.
-/
namespace Ev
open Go Go.RowKit

/-- whatever was there stands -/
structure Stands (w w' : World) : Prop where
  os : w'.os = w.os
  tape : w'.tape = w.tape
  output : w'.output = w.output
  size : w.heap.size ≤ w'.heap.size
  kept : ∀ r, r < w.heap.size → w'.heap[r]? = w.heap[r]?
theorem Stands.of_below {w w' : World} (h : Below w.heap.size w w') : Stands w w' := ⟨h.os, h.tape, h.output, h.size, fun r hr => h.block r hr⟩

theorem stands_rep [Fam] {ρ : Val} {H : Look} {w w' : World} (hr : Rep ρ H w) (hw : Stands w w') : Rep ρ H w' :=
  ⟨fun k o hk => by
    obtain ⟨l, h1, h2⟩ := hr.lies k o hk
    exact ⟨l, h1, h2.keep (Le.refl ρ) (hw.kept _ h2.lt)⟩, hr.sep, fun k t hk => by
    obtain ⟨l, h1, fp, h2, h3⟩ := hr.opq k t hk
    exact ⟨l, h1, fp, fun r hr' => ⟨(h2 r hr').1, Nat.lt_of_lt_of_le (h2 r hr').2.1 hw.size, (h2 r hr').2.2⟩, fun w2 h4 => h3 w2 fun r hr' => (h4 r hr').trans (hw.kept r (h2 r hr').2.1)⟩⟩
theorem stands_step [Fam] (n : Nat) (ρ : Val) (H : Look) {w w' : World} (hw : Stands w w') : Step n n ρ H w ρ H w' :=
  ⟨Le.refl ρ, fun _ _ => rfl, hw.os, hw.tape, hw.output, hw.size, fun r hr _ => hw.kept r hr, fun _ h => .inl h, fun _ _ h => .inr (.inl h)⟩

theorem fresh_rep2 [Fam] {st st' : St} {k : Nat} {o : SObj} (h : st.fresh o = some (k, st')) {ρ : Val} {w w' : World} (hr : Rep ρ st.look w) (hf : ρ k = none) (hown0 : own o = true) (hw : Stands w w') (l0 : Loc) (hl0 : w.heap.size ≤ l0.blk)
    (ho : ObjAt (bind1 ρ k l0) o l0 w') : Rep (bind1 ρ k l0) st'.look w' ∧ Step st.next st'.next ρ st.look w (bind1 ρ k l0) st'.look w' := by
  obtain ⟨rfl, h2, h3, h4, h5, h6⟩ := fresh_spec h
  have hle := bind1_le l0 hf
  have old : ∀ m o', st'.look m = some o' → m ≠ st.next → st.look m = some o' := fun m o' hm hne => by
    rw [look_eq, h3, h6, if_neg hne] at hm
    rw [look_eq]; exact hm
  have new : ∀ o', st'.look st.next = some o' → o' = o := fun o' hm => by
    have := (look_of hm).1
    rw [h6, if_pos rfl] at this
    exact (Option.some.inj this).symm
  have oldAt : ∀ m o', st.look m = some o' → ∃ l, ρ m = some l ∧ l.blk < w.heap.size := fun m o' hm => by
    obtain ⟨l, h7, h8⟩ := hr.lies m o' hm
    exact ⟨l, h7, h8.lt⟩
  have hstep : Step st.next st'.next ρ st.look w (bind1 ρ st.next l0) st'.look w' := by
    refine ⟨hle, fun m hm => bind1_ne _ (by omega), hw.os, hw.tape, hw.output, hw.size, fun r hr' _ => hw.kept r hr', fun r ⟨m, o', l, hm, hown, hl, hb⟩ => ?_, fun m o' hm => ?_⟩
    · by_cases e : m = st.next
      · subst e
        rw [bind1_self] at hl
        cases hl
        exact .inr (by omega)
      · rw [bind1_ne _ e] at hl
        exact .inl ⟨m, o', l, old _ _ hm e, hown, hl, hb⟩
    · by_cases e : m = st.next
      · subst e
        cases new _ hm
        exact .inl hown0
      · exact .inr (.inl (old _ _ hm e))
  refine ⟨⟨fun m o' hm => ?_, fun m j o1 o2 l l' hm hj hne hown hl hl' => ?_, fun m t hm => ?_⟩, hstep⟩
  · by_cases e : m = st.next
    · subst e
      cases new _ hm
      exact ⟨_, bind1_self _ _ _, ho⟩
    · obtain ⟨l, h7, h8⟩ := hr.lies m o' (old m o' hm e)
      exact ⟨l, hle _ _ h7, h8.keep hle (hw.kept _ h8.lt)⟩
  · by_cases e : m = st.next
    · subst e
      rw [bind1_self] at hl
      cases hl
      obtain ⟨l2, h7, h8⟩ := oldAt j o2 (old j o2 hj (fun e => hne e.symm))
      rw [hle _ _ h7] at hl'
      cases hl'
      omega
    · by_cases e2 : j = st.next
      · subst e2
        rw [bind1_self] at hl'
        cases hl'
        obtain ⟨l2, h7, h8⟩ := oldAt m o1 (old m o1 hm e)
        rw [hle _ _ h7] at hl
        cases hl
        omega
      · rw [bind1_ne _ e] at hl
        rw [bind1_ne _ e2] at hl'
        exact hr.sep m j o1 o2 l l' (old _ _ hm e) (old _ _ hj e2) hne hown hl hl'
  · by_cases e : m = st.next
    · subst e
      rw [← new _ hm] at hown0
      cases hown0
    · exact opq_old hr hstep (old _ _ hm e)

theorem drop_rep2 [Fam] {st st' : St} {k : Nat} {o : SObj} {l : Loc} (h : st.drop k = some st') {ρ : Val} {w w' : World} (hr : Rep ρ st.look w) (hk : st.look k = some o) (hown : own o = true) (hl : ρ k = some l) (hw : OnlyAt l.blk w w') :
    Rep ρ st'.look w' ∧ Step st.next st'.next ρ st.look w ρ st'.look w' := by
  obtain ⟨h1, h2, h3, h4, h5⟩ := drop_spec h
  have old : ∀ m o, st'.look m = some o → m ≠ k ∧ st.look m = some o := fun m o hm => by
    rw [look_eq, h2, h5] at hm
    split at hm
    · cases hm
    · rename_i hb
      split at hm
      · cases hm
      · rename_i hne; exact ⟨hne, by rw [look_eq, if_neg hb]; exact hm⟩
  have hstep : Step st.next st'.next ρ st.look w ρ st'.look w' := by
    rw [h1]
    exact ⟨Le.refl ρ, fun _ _ => rfl, hw.os, hw.tape, hw.output, by rw [hw.size]; exact Nat.le_refl _, fun r hr' hn => hw.block r fun e => hn ⟨k, o, l, hk, hown, hl, e.symm⟩, fun r ⟨m, om, lm, hm, h7, h8, h9⟩ => .inl ⟨m, om, lm, (old _ _ hm).2, h7, h8, h9⟩, fun m om hm => .inr (.inl (old _ _ hm).2)⟩
  refine ⟨⟨fun m om hm => ?_, fun m j o1 o2 l1 l2 hm hj => hr.sep m j o1 o2 l1 l2 (old _ _ hm).2 (old _ _ hj).2, fun m t hm => opq_old hr hstep (old _ _ hm).2⟩, hstep⟩
  obtain ⟨e, hm'⟩ := old m om hm
  obtain ⟨lm, h7, h8⟩ := hr.lies m om hm'
  exact ⟨lm, h7, h8.keep (Le.refl ρ) (hw.block _ (hr.sep k m o om l lm hk hm' (fun e' => e e'.symm) hown hl h7).symm)⟩

/-- a new name for what is only known by a word -/
theorem fresh_opq [Fam] {st st' : St} {k t : Nat} (h : st.fresh (.opq t) = some (k, st')) {ρ : Val} {w w' : World} (hr : Rep ρ st.look w) (hf : ρ k = none) (hw : Stands w w') (l0 : Loc) (hl0 : w.heap.size ≤ l0.blk) (hl1 : l0.blk < w'.heap.size)
    (hnew : ∃ fp : Nat → Prop, (∀ r, fp r → w.heap.size ≤ r ∧ r < w'.heap.size) ∧ ∀ w2 : World, (∀ r, fp r → w2.heap[r]? = w'.heap[r]?) → Fam.At t l0 w2) :
    Rep (bind1 ρ k l0) st'.look w' ∧ Step st.next st'.next ρ st.look w (bind1 ρ k l0) st'.look w' := by
  obtain ⟨rfl, h2, h3, h4, h5, h6⟩ := fresh_spec h
  have hle := bind1_le l0 hf
  have old : ∀ m o', st'.look m = some o' → m ≠ st.next → st.look m = some o' := fun m o' hm hne => by
    rw [look_eq, h3, h6, if_neg hne] at hm
    rw [look_eq]; exact hm
  have new : ∀ o', st'.look st.next = some o' → o' = .opq t := fun o' hm => by
    have := (look_of hm).1
    rw [h6, if_pos rfl] at this
    exact (Option.some.inj this).symm
  have oldAt : ∀ m o', st.look m = some o' → ∃ l, ρ m = some l ∧ l.blk < w.heap.size := fun m o' hm => by
    obtain ⟨l, h7, h8⟩ := hr.lies m o' hm
    exact ⟨l, h7, h8.lt⟩
  have owns : ∀ r, Owns (bind1 ρ st.next l0) st'.look r → Owns ρ st.look r := fun r ⟨m, o', l, hm, hown, hl, hb⟩ => by
    by_cases e : m = st.next
    · subst e
      cases new _ hm
      cases hown
    · rw [bind1_ne _ e] at hl
      exact ⟨m, o', l, old _ _ hm e, hown, hl, hb⟩
  have ownLt : ∀ r, Owns ρ st.look r → r < w.heap.size := fun r ⟨m, o', l, hm, hown, hl, hb⟩ => by
    obtain ⟨l2, h7, h8⟩ := oldAt m o' hm
    rw [hl] at h7
    cases h7
    omega
  have hO : Opq (bind1 ρ st.next l0) st'.look t l0 w.heap.size w' := by
    obtain ⟨fp, f1, f2⟩ := hnew
    exact ⟨fp, fun r hr' => ⟨(f1 r hr').1, (f1 r hr').2, fun ho => by have := ownLt r (owns r ho); have := (f1 r hr').1; omega⟩, f2⟩
  have hstep : Step st.next st'.next ρ st.look w (bind1 ρ st.next l0) st'.look w' := by
    refine ⟨hle, fun m hm => bind1_ne _ (by omega), hw.os, hw.tape, hw.output, hw.size, fun r hr' _ => hw.kept r hr', fun r ho => .inl (owns r ho), fun m o' hm => ?_⟩
    by_cases e : m = st.next
    · subst e
      cases new _ hm
      exact .inr (.inr ⟨t, l0, rfl, bind1_self _ _ _, hl0, hO⟩)
    · exact .inr (.inl (old _ _ hm e))
  refine ⟨⟨fun m o' hm => ?_, fun m j o1 o2 l l' hm hj hne hown hl hl' => ?_, fun m t' hm => ?_⟩, hstep⟩
  · by_cases e : m = st.next
    · subst e
      cases new _ hm
      exact ⟨_, bind1_self _ _ _, hl1⟩
    · obtain ⟨l, h7, h8⟩ := hr.lies m o' (old m o' hm e)
      exact ⟨l, hle _ _ h7, h8.keep hle (hw.kept _ h8.lt)⟩
  · by_cases e : m = st.next
    · subst e
      cases new _ hm
      cases hown
    · by_cases e2 : j = st.next
      · subst e2
        rw [bind1_self] at hl'
        cases hl'
        obtain ⟨l2, h7, h8⟩ := oldAt m o1 (old m o1 hm e)
        rw [hle _ _ h7] at hl
        cases hl
        omega
      · rw [bind1_ne _ e] at hl
        rw [bind1_ne _ e2] at hl'
        exact hr.sep m j o1 o2 l l' (old _ _ hm e) (old _ _ hj e2) hne hown hl hl'
  · by_cases e : m = st.next
    · subst e
      cases new _ hm
      exact ⟨l0, bind1_self _ _ _, hO.low (Nat.zero_le _)⟩
    · exact opq_old hr hstep (old _ _ hm e)

/-! States of rows that are there, and of names that are only known by a word. -/
noncomputable def itemO (x : Option Row0) : Option SObj :=
  Option.rec (motive := fun _ => Option SObj) (some (.opq 7)) (fun r => bnd (T.lay T.nil 0 r.cells) fun c => some (.cells ⟨r.cells.length, c, 0, r.slack, false⟩)) x
noncomputable def itemsO (l : List (Option Row0)) : Nat → T SObj → Option (T SObj) :=
  List.rec (motive := fun _ => Nat → T SObj → Option (T SObj)) (fun _ h => some h) (fun x _ ih j h => bnd (itemO x) fun o => bnd (h.set j o) fun h' => ih (Nat.succ j) h') l
noncomputable def pstO (l : List (Option Row0)) : Option St := bnd (itemsO l 0 T.nil) fun h => some ⟨h, l.length, l.length, [], []⟩
theorem itemsO_ok : ∀ {l : List (Option Row0)} {j : Nat} {h h' : T SObj}, itemsO l j h = some h' → ∀ m, (m < j ∨ j + l.length ≤ m → h'.get m = h.get m) ∧ ∀ i x, l[i]? = some x → m = j + i → h'.get m = itemO x
  | [], j, h, h', hh, m => by
    have hh : some h = some h' := hh
    cases hh
    exact ⟨fun _ => rfl, fun i x hi => by simp at hi⟩
  | x :: l, j, h, h', hh, m => by
    have hh : bnd (itemO x) (fun o => bnd (h.set j o) fun h' => itemsO l (Nat.succ j) h') = some h' := hh
    rw [bnd_some] at hh
    obtain ⟨o, h1, hh⟩ := hh
    rw [bnd_some] at hh
    obtain ⟨h2, h3, h4⟩ := hh
    obtain ⟨k1, k2⟩ := itemsO_ok h4 m
    have k0 := T.set_spec h3 m
    refine ⟨fun hm => ?_, fun i y hi hm => ?_⟩
    · simp at hm
      rw [k1 (by omega), k0, if_neg (by omega)]
    · cases i with
      | succ i => exact k2 i y (by simpa using hi) (by omega)
      | zero =>
        simp at hi
        subst hi
        rw [k1 (by omega), k0, if_pos (by omega), h1]
theorem itemO_some {x : Option Row0} {o : SObj} (h : itemO x = some o) : (x = none ∧ o = .opq 7) ∨ ∃ r c, x = some r ∧ o = .cells ⟨r.cells.length, c, 0, r.slack, false⟩ ∧ ∀ y, y < r.cells.length → c.get y = r.cells[y]? := by
  cases x with
  | none =>
    have h : some (SObj.opq 7) = some o := h
    cases h
    exact .inl ⟨rfl, rfl⟩
  | some r =>
    have h : bnd (T.lay T.nil 0 r.cells) (fun c => some (SObj.cells ⟨r.cells.length, c, 0, r.slack, false⟩)) = some o := h
    rw [bnd_some] at h
    obtain ⟨c, h1, h2⟩ := h
    cases h2
    exact .inr ⟨r, c, rfl, rfl, fun y hy => by rw [T.lay_spec h1 y, if_pos ⟨Nat.zero_le _, by omega⟩]; simp⟩
theorem pstO_ok {l : List (Option Row0)} {st : St} (h : pstO l = some st) : st.next = l.length ∧ st.ban = [] ∧ st.mark = l.length ∧ Wf st ∧ ∀ k o, st.look k = some o → ∃ x, l[k]? = some x ∧ itemO x = some o := by
  unfold pstO at h
  rw [bnd_some] at h
  obtain ⟨t, h1, h2⟩ := h
  cases h2
  have out : ∀ k, l.length ≤ k → t.get k = none := fun k hk => by
    rw [(itemsO_ok h1 k).1 (by omega)]
    rfl
  refine ⟨rfl, rfl, rfl, ⟨out, fun k hb => by cases hb⟩, fun k o ho => ?_⟩
  have ho := (look_of ho).1
  have ho : t.get k = some o := ho
  rcases Nat.lt_or_ge k l.length with hk | hk
  · exact ⟨l[k], List.getElem?_eq_getElem hk, by rw [← (itemsO_ok h1 k).2 k l[k] (List.getElem?_eq_getElem hk) (by omega)]; exact ho⟩
  · rw [out k hk] at ho
    cases ho
/-- a row lies as it is said -/
def RowIs (ρ : Val) (row : Row0) (l : Loc) (w : World) : Prop := ∃ (cs : Array Value) (e : TypeId) (fz : Nat × Nat), w.heap[l.blk]? = some (.cells cs e fz) ∧
  (∀ (x : Nat) (s : SVal), row.cells[x]? = some s → ∃ v, den ρ s = some v ∧ cs[l.base + x]? = some v) ∧ ∀ sz, row.slack = some sz → row.cells.length ≤ l.cap * sz
theorem RowIs.row {ρ : Val} {row : Row0} {l : Loc} {w : World} (h : RowIs ρ row l w) {c : T SVal} (hc : ∀ x, x < row.cells.length → c.get x = row.cells[x]?) : RowAt ρ ⟨row.cells.length, c, 0, row.slack, false⟩ l w := by
  obtain ⟨cs, e, fz, h2, h3, h4⟩ := h
  refine ⟨cs, e, fz, h2, fun x hx => ?_, fun h => absurd h (by simp), fun sz hsz => ⟨h4 sz hsz, fun h => absurd h (by simp)⟩⟩
  have hx : x < row.cells.length := hx
  obtain ⟨v, h5, h6⟩ := h3 x row.cells[x] (List.getElem?_eq_getElem hx)
  exact ⟨row.cells[x], v, by show c.get x = _; rw [hc x hx]; exact List.getElem?_eq_getElem hx, h5, h6⟩
theorem RowIs.keep {ρ : Val} {row : Row0} {l : Loc} {w w2 : World} (h : RowIs ρ row l w) (hk : w2.heap[l.blk]? = w.heap[l.blk]?) : RowIs ρ row l w2 := by
  obtain ⟨cs, e, fz, h2, h3⟩ := h
  exact ⟨cs, e, fz, hk.trans h2, h3⟩
theorem RowIs.lt {ρ : Val} {row : Row0} {l : Loc} {w : World} (h : RowIs ρ row l w) : l.blk < w.heap.size := by
  obtain ⟨cs, e, fz, h2, _⟩ := h
  exact (Array.getElem?_eq_some_iff.1 h2).1
/-- what a name of a list of items stands for -/
def ItemIs (C : Loc → Prop) (ρ : Val) (x : Option Row0) (l : Loc) (w : World) : Prop :=
  match x with
  | some row => RowIs ρ row l w
  | none => C l ∧ l.blk < w.heap.size
theorem ItemIs.lt {C : Loc → Prop} {ρ : Val} {x : Option Row0} {l : Loc} {w : World} (h : ItemIs C ρ x l w) : l.blk < w.heap.size := by
  cases x with
  | none => exact h.2
  | some row => exact RowIs.lt h
structure ItemsAt (C : Loc → Prop) (ρ : Val) (items : List (Option Row0)) (w : World) : Prop where
  at_ : ∀ i x, items[i]? = some x → ∃ l, ρ i = some l ∧ ItemIs C ρ x l w
  no : ∀ i, items.length ≤ i → ρ i = none
theorem pstO_rep [Fam] {items : List (Option Row0)} {st : St} (h : pstO items = some st) {C : Loc → Prop} {ρ : Val} {w : World} (hi : ItemsAt C ρ items w) (hC : ∀ l, C l → ∀ w2 : World, (∀ r, r < w.heap.size → w2.heap[r]? = w.heap[r]?) → Fam.At 7 l w2) :
    Rep ρ st.look w ∧ ∀ k o, st.look k = some o → own o = false := by
  obtain ⟨h1, h2, _, h3, h4⟩ := pstO_ok h
  have noown : ∀ k o, st.look k = some o → own o = false := fun k o hk => by
    obtain ⟨x, _, h6⟩ := h4 k o hk
    rcases itemO_some h6 with ⟨_, rfl⟩ | ⟨r, c, _, rfl, _⟩ <;> rfl
  refine ⟨⟨fun k o hk => ?_, fun k j o o' l l' hk hj hne how => ?_, fun k t hk => ?_⟩, noown⟩
  · obtain ⟨x, h5, h6⟩ := h4 k o hk
    obtain ⟨l, h7, h8⟩ := hi.at_ k x h5
    refine ⟨l, h7, ?_⟩
    rcases itemO_some h6 with ⟨rfl, rfl⟩ | ⟨r, c, rfl, rfl, h9⟩
    · exact h8.2
    · exact RowIs.row h8 h9
  · rw [noown k o hk] at how
    cases how
  · obtain ⟨x, h5, h6⟩ := h4 k _ hk
    rcases itemO_some h6 with ⟨rfl, h7⟩ | ⟨r, c, _, h7, _⟩
    · cases h7
      obtain ⟨l, h8, h9⟩ := hi.at_ k none h5
      exact ⟨l, h8, fun r => r < w.heap.size, fun r hr => ⟨Nat.zero_le _, hr, fun ⟨m, o, l2, a, b, _⟩ => by rw [noown m o a] at b; cases b⟩, hC l h9.1⟩
    · cases h7
/-- names of one list of items as names of another one -/
theorem RowIs.ren [Fam] {ρ σ : Val} {row row' : Row0} {l : Loc} {w : World} (h : RowIs ρ row l w) {ns : List Nat} (hs : sLs (sF ns 0) row.cells row'.cells = true) (hsl : row'.slack = row.slack) (hn : ∀ k k' l, ns[k']? = some k → ρ k = some l → σ k' = some l) : RowIs σ row' l w := by
  have hN : ∀ k k' l, sName ns 0 k k' = true → ρ k = some l → σ k' = some l := fun k k' l hs hl => by
    have hs : @Option.rec _ (fun _ => Bool) false (fun n => Nat.beq n k) (ns[k' - 0]?) = true := hs
    rw [Nat.sub_zero] at hs
    cases hi : ns[k']? with
    | none => rw [hi] at hs; cases hs
    | some n => rw [hi] at hs; rw [← beq_true hs] at hl; exact hn n k' l hi hl
  obtain ⟨cs, e, fz, h2, h3, h4⟩ := h
  have hd : denL ρ row.cells = some (row.cells.zipIdx.map fun p => (cs[l.base + p.2]?).getD undef) := by
    refine denL_of_get (by simp) fun x s hx => ?_
    obtain ⟨v, h5, h6⟩ := h3 x s hx
    have hlt := (List.getElem?_eq_some_iff.1 hx).1
    exact ⟨v, by simp [hlt, h6], h5⟩
  have hd' := sLs_ok (sF_ok hN) hs hd
  have hlen : row'.cells.length = row.cells.length := by
    have a := denL_length hd
    have b := denL_length hd'
    omega
  refine ⟨cs, e, fz, h2, fun x s hx => ?_, fun sz hsz => by rw [hlen]; exact h4 sz (hsl ▸ hsz)⟩
  obtain ⟨v, h5, h6⟩ := denL_get hd' hx
  have hlt : x < row.cells.length := by rw [← hlen]; exact (List.getElem?_eq_some_iff.1 hx).1
  obtain ⟨v2, h7, h8⟩ := h3 x row.cells[x] (List.getElem?_eq_getElem hlt)
  refine ⟨v, h6, ?_⟩
  simp [hlt, h8] at h5
  rw [h8, h5]
/-- rows of the call's own, taken as rows that are there -/
theorem pack_row [Fam] {ρ : Val} {st : St} {w : World} (hr : Rep ρ st.look w) {ns : List Nat} {n : Nat} {r : Row1} (h : outRow ns 0 st n r = some ()) : ∃ l, ρ n = some l ∧ Owns ρ st.look l.blk ∧ RowIs (fun k => (ns[k]?).bind ρ) ⟨r.cells, r.slack⟩ l w := by
  have hN : ∀ k k' l, sName ns 0 k k' = true → ρ k = some l → (fun k => (ns[k]?).bind ρ) k' = some l := fun k k' l hs hl => by
    have hs : @Option.rec _ (fun _ => Bool) false (fun n => Nat.beq n k) (ns[k' - 0]?) = true := hs
    rw [Nat.sub_zero] at hs
    show (ns[k']?).bind ρ = some l
    cases hi : ns[k']? with
    | none => rw [hi] at hs; cases hs
    | some n => rw [hi] at hs; rw [← beq_true hs] at hl; exact hl
  obtain ⟨b, l, b1, b2, b3, b4, b5, b6, b7⟩ := outRow_ok h
  obtain ⟨l0, r1, r2⟩ := hr.lies _ _ b1
  obtain ⟨vs', v1, v2, v3⟩ := row_read (show RowAt ρ b l0 w from r2) b6 (by omega)
  have v4 := sLs_ok (sF_ok hN) b7 v1
  obtain ⟨cs', el, fz, t1, t2, t3, t4⟩ := r2
  refine ⟨l0, r1, ⟨_, _, l0, b1, b2, r1, rfl⟩, cs', el, fz, t1, fun x s hx => ?_, fun sz hsz => ?_⟩
  · obtain ⟨v, v6, v7⟩ := denL_get v4 hx
    refine ⟨v, v7, ?_⟩
    have := v3 x v v6
    simp only [World.cell?, t1] at this
    simpa using this
  · have := (t4 sz (b5.trans hsz)).1
    show r.cells.length ≤ l0.cap * sz
    omega
noncomputable def opqB (st : St) (k : Nat) : Option Unit := bnd (st.look k) fun o => SObj.rec (motive := fun _ => Option Unit) (fun _ => none) (fun _ => none) (fun _ => some ()) o
theorem opqB_spec {st : St} {k : Nat} (h : opqB st k = some ()) : ∃ t, st.look k = some (.opq t) := by
  unfold opqB at h
  rw [bnd_some] at h
  obtain ⟨o, h1, h2⟩ := h
  cases o with
  | cells b => cases h2
  | map es => cases h2
  | opq t => exact ⟨t, h1⟩
/-- the items of a result: rows of the call's own (with their types), and new names that are only known by a word -/
noncomputable def outItems (ns : List Nat) (st : St) (l : List (Nat × Option Row1)) : Option Unit :=
  List.rec (motive := fun _ => Option Unit) (some ()) (fun p _ ih => bnd (Option.rec (motive := fun _ => Option Unit) (opqB st p.1) (fun r => outRow ns 0 st p.1 r) p.2) fun _ => ih) l
theorem outItems_ok {ns : List Nat} {st : St} : ∀ {l : List (Nat × Option Row1)}, outItems ns st l = some () → ∀ p ∈ l, (∀ r, p.2 = some r → outRow ns 0 st p.1 r = some ()) ∧ (p.2 = none → opqB st p.1 = some ())
  | [], _, p, hp => by simp at hp
  | q :: l, h, p, hp => by
    have h : bnd (@Option.rec _ (fun _ => Option Unit) (opqB st q.1) (fun r => outRow ns 0 st q.1 r) q.2) (fun _ => outItems ns st l) = some () := h
    rw [bnd_some] at h
    obtain ⟨_, h1, h2⟩ := h
    rcases List.mem_cons.1 hp with rfl | hp
    · refine ⟨fun r hr => by rw [hr] at h1; exact h1, fun hr => by rw [hr] at h1; exact h1⟩
    · exact outItems_ok h2 p hp
/-- a result taken as items that are there, on blocks that are new -/
theorem pack_items [Fam] {lo hi : Nat} {ρ0 ρ : Val} {H : Look} {st : St} {w0 w : World} (hr : Rep ρ st.look w) (hs : Step lo hi ρ0 H w0 ρ st.look w) (hH : ∀ k o, H k = some o → own o = false ∧ k < lo) {l : List (Nat × Option Row1)} (hl : ∀ p ∈ l, lo ≤ p.1)
    (h : outItems (l.map Prod.fst) st l = some ()) : ∃ fp : Nat → Prop, (∀ x, fp x → w0.heap.size ≤ x ∧ x < w.heap.size) ∧ ∀ w2 : World, (∀ x, fp x → w2.heap[x]? = w.heap[x]?) →
      ItemsAt (fun lc => ∃ t, Fam.At t lc w2) (fun k => ((l.map Prod.fst)[k]?).bind ρ) (l.map fun p => p.2.map fun r => (⟨r.cells, r.slack⟩ : Row0)) w2 := by
  have new : ∀ r, Owns ρ st.look r → w0.heap.size ≤ r := fun r ho => (hs.owns r ho).elim (fun ⟨k, o, _, a, b, _⟩ => by rw [(hH k o a).1] at b; cases b) id
  have word : ∀ n t, lo ≤ n → st.look n = some (.opq t) → ∃ (lc : Loc) (fp : Nat → Prop), ρ n = some lc ∧ w0.heap.size ≤ lc.blk ∧ lc.blk < w.heap.size ∧ (∀ y, fp y → w0.heap.size ≤ y ∧ y < w.heap.size) ∧ ∀ w2 : World, (∀ y, fp y → w2.heap[y]? = w.heap[y]?) → Fam.At t lc w2 := fun n t hn hk => by
    rcases hs.fine n _ hk with q | q | ⟨t', lc, q1, q2, q3, fp, q4, q5⟩
    · cases q
    · have := (hH n _ q).2
      omega
    · cases q1
      obtain ⟨lc', q6, q7⟩ := hr.lies n _ hk
      rw [q2] at q6
      cases q6
      exact ⟨lc, fp, q2, q3, q7, fun y hy => ⟨(q4 y hy).1, (q4 y hy).2.1⟩, q5⟩
  refine ⟨fun x => (∃ p ∈ l, ∃ lc, ρ p.1 = some lc ∧ x = lc.blk ∧ w0.heap.size ≤ x ∧ x < w.heap.size) ∨ ∃ p ∈ l, ∃ (t : Nat) (lc : Loc) (fp : Nat → Prop), lo ≤ p.1 ∧ st.look p.1 = some (.opq t) ∧ ρ p.1 = some lc ∧ (∀ y, fp y → w0.heap.size ≤ y ∧ y < w.heap.size) ∧ fp x, fun x hx => ?_, fun w2 hw2 => ⟨fun i x hi => ?_, fun i hi => ?_⟩⟩
  · rcases hx with ⟨p, _, lc, _, _, h2, h3⟩ | ⟨p, _, t, lc, fp, _, _, _, h1, h2⟩
    · exact ⟨h2, h3⟩
    · exact h1 x h2
  · rw [List.getElem?_map, Option.map_eq_some_iff] at hi
    obtain ⟨p, hi, rfl⟩ := hi
    have hp := List.mem_of_getElem? hi
    obtain ⟨h1, h2⟩ := outItems_ok h p hp
    have hname : ((l.map Prod.fst)[i]?).bind ρ = ρ p.1 := by rw [List.getElem?_map, hi]; rfl
    cases hx : p.2 with
    | some r =>
      obtain ⟨lc, m1, m2, m3⟩ := pack_row hr (h1 r hx)
      refine ⟨lc, hname.trans m1, m3.keep (hw2 _ (.inl ⟨p, hp, lc, m1, rfl, new _ m2, m3.lt⟩))⟩
    | none =>
      obtain ⟨t, m0⟩ := opqB_spec (h2 hx)
      obtain ⟨lc, fp, m1, m2, m3, m4, m5⟩ := word p.1 t (hl p hp) m0
      have hb := hw2 lc.blk (.inl ⟨p, hp, lc, m1, rfl, m2, m3⟩)
      refine ⟨lc, hname.trans m1, ⟨t, m5 w2 fun y hy => hw2 y (.inr ⟨p, hp, t, lc, fp, hl p hp, m0, m1, m4, hy⟩)⟩, ?_⟩
      rw [Array.getElem?_eq_getElem m3] at hb
      exact (Array.getElem?_eq_some_iff.1 hb).1
  · simp at hi
    show ((l.map Prod.fst)[i]?).bind ρ = none
    rw [List.getElem?_eq_none (by simp; exact hi)]
    rfl

/-- all stands but the block q -/
structure But (q : Nat) (w w' : World) : Prop where
  os : w'.os = w.os
  tape : w'.tape = w.tape
  output : w'.output = w.output
  size : w.heap.size ≤ w'.heap.size
  kept : ∀ x, x < w.heap.size → x ≠ q → w'.heap[x]? = w.heap[x]?
theorem put_rep2 [Fam] {st st' : St} {k : Nat} {o o' : SObj} {l : Loc} (h : st.put k o = some st') {ρ : Val} {w w' : World} (hr : Rep ρ st.look w) (hk : st.look k = some o') (hown : own o' = true) (hown2 : own o = true) (hl : ρ k = some l)
    (hw : But l.blk w w') (ho : ObjAt ρ o l w') : Rep ρ st'.look w' ∧ Step st.next st'.next ρ st.look w ρ st'.look w' := by
  obtain ⟨h1, h2, h3, h4, h5⟩ := put_spec h
  have hb := (look_of hk).2
  have lk : st'.look k = some o := by rw [look_eq, h2, hb, h5]; simp
  have old : ∀ m, m ≠ k → st'.look m = st.look m := fun m hm => by rw [look_eq, look_eq, h2, h5, if_neg hm]
  have hs : Step st.next st.next ρ st.look w ρ st'.look w' := by
    refine ⟨Le.refl ρ, fun _ _ => rfl, hw.os, hw.tape, hw.output, hw.size, fun r hr' hn => ?_, fun r ⟨m, om, lm, hm, hom, hlm, hbm⟩ => .inl ?_, fun m om hm => ?_⟩
    · exact hw.kept r hr' fun e => hn ⟨k, o', l, hk, hown, hl, e.symm⟩
    · by_cases e : m = k
      · subst e
        exact ⟨m, o', l, hk, hown, hl, by rw [hl] at hlm; cases hlm; exact hbm⟩
      · rw [old m e] at hm
        exact ⟨m, om, lm, hm, hom, hlm, hbm⟩
    · by_cases e : m = k
      · subst e
        rw [lk] at hm
        cases hm
        exact .inl hown2
      · rw [old m e] at hm
        exact .inr (.inl hm)
  refine ⟨⟨fun m om hm => ?_, fun m j o1 o2 l1 l2 hm hj hne ho1 hl1 hl2 => ?_, fun m t hm => ?_⟩, by rw [h1]; exact hs⟩
  · by_cases e : m = k
    · subst e
      rw [lk] at hm
      cases hm
      exact ⟨l, hl, ho⟩
    · rw [old m e] at hm
      obtain ⟨lm, h7, h8⟩ := hr.lies m om hm
      exact ⟨lm, h7, h8.keep (Le.refl ρ) (hw.kept _ h8.lt (hr.sep k m o' om l lm hk hm (fun e' => e e'.symm) hown hl h7).symm)⟩
  · by_cases e : m = k
    · subst e
      rw [old j (fun e => hne e.symm)] at hj
      rw [hl] at hl1
      cases hl1
      exact hr.sep m j o' o2 l l2 hk hj hne hown hl hl2
    · rw [old m e] at hm
      by_cases e2 : j = k
      · subst e2
        exact hr.sep m j o1 o' l1 l2 hm hk hne ho1 hl1 hl2
      · rw [old j e2] at hj
        exact hr.sep m j o1 o2 l1 l2 hm hj hne ho1 hl1 hl2
  · by_cases e : m = k
    · subst e
      rw [lk] at hm
      cases hm
      cases hown2
    · exact opq_old hr hs (by rw [← old m e]; exact hm)
/-- a whole row of one's own is written anew, and whatever is new -/
theorem but_rep [Fam] {st st' : St} {ρ : Val} {w w' : World} {k : Nat} {b : Blk} {l : Loc} {ls : List SVal} {vs : List Value} {ty : TypeId} (hr : Rep ρ st.look w) (h : storeS st k 0 ls = some st') (hb : st.look k = some (.cells b)) (hsl : b.slack = none) (hn : b.n = ls.length)
    (hl : ρ k = some l) (hd : denL ρ ls = some vs) (hB : But l.blk w w') (h0 : ∃ cs0, w.heap[l.blk]? = some (.cells cs0 ty (0, 0))) (hw : w'.heap[l.blk]? = some (.cells vs.toArray ty (0, 0))) : Rep ρ st'.look w' ∧ Step st.next st'.next ρ st.look w ρ st'.look w' := by
  unfold storeS at h
  rw [bnd_some] at h
  obtain ⟨b', h1, h⟩ := h
  have := blk_spec h1
  rw [hb] at this
  cases this
  rw [whn_some, whn_some, whn_some, bnd_some] at h
  obtain ⟨h2, _, _, c, h5, h6⟩ := h
  refine put_rep2 h6 hr hb h2 h2 hl hB ?_
  obtain ⟨lk, q1, q2⟩ := hr.lies k _ hb
  rw [hl] at q1
  cases q1
  obtain ⟨cs, e, fz, q3, _, q5, _⟩ := q2
  obtain ⟨cs0, h0⟩ := h0
  rw [h0] at q3
  cases q3
  obtain ⟨z1, z2, z3, _⟩ := q5 h2
  have hlen := denL_length hd
  refine ⟨vs.toArray, ty, (0, 0), hw, fun i hi => ?_, fun _ => ⟨z1, rfl, z3, fun _ => by show vs.toArray.size = b.n; simp; omega⟩, fun sz hsz => ?_⟩
  · have hi : i < b.n := hi
    obtain ⟨v, h7, h8⟩ := denL_get hd (List.getElem?_eq_getElem (show i < ls.length by omega))
    refine ⟨ls[i]'(by omega), v, ?_, h8, ?_⟩
    · show c.get i = _
      rw [T.lay_spec h5 i, if_pos ⟨Nat.zero_le _, by omega⟩]
      exact List.getElem?_eq_getElem (by omega)
    · rw [z1, Nat.zero_add]
      simpa using h7
  · have hsz : b.slack = some sz := hsz
    rw [hsl] at hsz
    cases hsz

theorem call1_of_calls [Fam] {P : Program} {f : FuncId} {fn : Func} (hf : P.funcs[f]? = some fn) (hn : (fn.name == "runtime.NumGoroutine") = false) (hb : fn.body.isSome = true) {args : Array Value} {w : World} {R : Value → World → Prop}
    (h : CallR P f args w R) : Call1 P f args w R := by
  obtain ⟨body, hb⟩ := Option.isSome_iff_exists.1 hb
  exact call1_enter hf hn hb h

/-- the state that knows nothing -/
noncomputable def st0 : St := ⟨T.nil, 0, 0, [], []⟩
theorem st0_look (k : Nat) : st0.look k = none := by
  rw [look_eq]
  split
  · rfl
  · exact T.get_nil k
theorem st0_rep [Fam] (ρ : Val) (w : World) : Rep ρ st0.look w := ⟨fun k o h => (by rw [st0_look] at h; cases h), fun k j o o' l l' h => (by rw [st0_look] at h; cases h), fun k t h => (by rw [st0_look] at h; cases h)⟩
theorem st0_wf : Wf st0 := ⟨fun k _ => T.get_nil k, fun k h => by cases h⟩
theorem stands_of_step [Fam] {lo hi : Nat} {ρ ρ' : Val} {H H' : Look} {w w' : World} (h : Step lo hi ρ H w ρ' H' w') (hn : ∀ k o, H k = some o → own o = false) : Stands w w' :=
  ⟨h.os, h.tape, h.output, h.size, fun r hr => h.kept r hr fun ⟨k, o, l, h1, h2, _⟩ => by rw [hn k o h1] at h2; cases h2⟩
/-- a call whose arguments are no names -/
theorem calls_closed [Fam] {P : Program} {fc : Fct} (h : CallG (CallR P) fc.f (useF fc)) {args : List SVal} {s : SVal} (hu : Option.map Prod.fst (useF fc args st0) = some s) {vs : List Value} (hd : denL (fun _ => none) args = some vs) (w : World) :
    Calls P fc.f vs.toArray w fun e w' => ∃ v, e = .returned v ∧ (∃ ρ, den ρ s = some v) ∧ Stands w w' := by
  rw [Option.map_eq_some_iff] at hu
  obtain ⟨⟨s', st'⟩, h1, h2⟩ := hu
  have h2 : s' = s := h2
  subst h2
  refine Calls.mono ((h args st0 s' st' h1).2 (st0_rep _ w) st0_wf (fun _ _ _ => rfl) hd) ?_
  rintro e w' ⟨v, he, ρ', hv, _, hs⟩
  exact ⟨v, he, ⟨ρ', hv⟩, stands_of_step hs fun k o hk => by rw [st0_look] at hk; cases hk⟩

end Ev
/-
  Short names for contents.
-/
namespace Ev.Sh
abbrev bt : SVal := .bool true
abbrev bf : SVal := .bool false
abbrev i (n : Nat) : SVal := .int .i64 (.ofNat n)
abbrev m (n : Nat) : SVal := .int .i64 (.negSucc n)
abbrev u (n : Nat) : SVal := .int .u8 (.ofNat n)
abbrev x (k n : Nat) : SVal := .sl k 0 n (.ex n)
abbrev r (k n : Nat) : SVal := .sl k 0 n (.rest 0)
abbrev fn (f : Nat) : SVal := .func (.func f) [] []
end Ev.Sh
