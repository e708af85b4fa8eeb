import Derived.Test.YtpgkdhhlcpgjcaaGreatDoorVisB
import Derived.Test.YtpgkdhhlcpgjcaaGreatDoorNestC
/-
  Lists in each other, however deep: whether they are sound.
-/
namespace Go.Proofs.YtpgkdhhlcpgjcaaGreatDoor
open Ev Ev.Sh Go.RowKit
set_option maxRecDepth 100000
noncomputable def sndRun (N M : Int) (B : Bool) : Option SVal :=
  bnd (pstO [none]) fun st => bnd (callFn envT (run envT (extV 1 N M B) 100000) Tryz.f40 [.agg (V0 (r 0 1))] st) fun p => some p.1
theorem sndRun_ok (N M : Int) (B : Bool) : sndRun N M B = some (.bool (!(false || B))) := by kernel_rfl
def SndP (K : Kind) (t : Nat) : Prop := ∀ (w : World) (l : Ev.Loc), At K t l w → Calls Tryz.prog 40 #[hdV l] w fun e w' => e = .returned (.bool (!(Bv K t 1))) ∧ Stands w w'
theorem snd_all (K : Kind) (t : Nat) (ht : t ≤ 14) : SndP K t := by
  letI : Fam := famK K (t + 1)
  intro w l hA
  have ih : VisP K t 1 (Nv K t) (Mv K t 1) (Bv K t 1) := vis_all K t (lev := 1) (Nat.le_refl _) (by omega)
  have hrun := sndRun_ok (Nv K t) (Mv K t 1) (Bv K t 1)
  unfold sndRun at hrun
  rw [bnd_some] at hrun
  obtain ⟨st, g1, hrun⟩ := hrun
  rw [bnd_some] at hrun
  obtain ⟨⟨s, st'⟩, g2, g4⟩ := hrun
  have g4 : some s = some (.bool (!(false || Bv K t 1))) := g4
  cases g4
  obtain ⟨q1, q2, _, q3, q4⟩ := pstO_ok g1
  let ρ : Val := fun k => if k = 0 then some l else none
  have hI : ItemsAt (Child K (t + 1) w) ρ [none] w := ⟨fun i x hi => by
    match i, hi with
    | 0, hi =>
      simp at hi
      subst hi
      exact ⟨l, rfl, hA, hA.lt⟩
    | i + 1, hi => simp at hi, fun i hi => by
    show (if i = 0 then some l else none) = none
    rw [if_neg]
    simp at hi
    omega⟩
  obtain ⟨hrep, hno⟩ := pstO_rep g1 hI famK_hC
  have hfn : envT.funcs.get 40 = some Tryz.f40 := by kernel_rfl
  obtain ⟨k1, k2⟩ := callFn_calls env_ok (run_ok env_ok (extV_ok ih) 100000).1 hfn g2
  have hfree : Free ρ st.next st'.next := fun k hk _ => hI.no k (by omega)
  have hd : denL ρ [.agg (V0 (r 0 1))] = some [hdV l] := denL_cons.2 ⟨_, [], hd_den rfl, rfl, rfl⟩
  refine (k2 hrep q3 hfree hd).mono ?_
  rintro e w' ⟨v, rfl, ρ1, hv, hr1, hs1⟩
  have hv : some (Value.bool (!(false || Bv K t 1))) = some v := hv
  cases hv
  exact ⟨rfl, stands_of_step hs1 hno⟩
end Go.Proofs.YtpgkdhhlcpgjcaaGreatDoor
/-
  Lists in each other, found among the rows that are known.
-/
namespace Go.Proofs.YtpgkdhhlcpgjcaaGreatDoor
open Ev Ev.Sh Go.RowKit
set_option maxRecDepth 100000
/-- a name, and the capacity by which it is seen -/
structure VEnt where
  k : Nat
  ov : Option Nat
def locE (ρ : Val) (e : VEnt) : Option Ev.Loc := (ρ e.k).map fun l => match e.ov with
  | none => l
  | some c => ⟨l.blk, l.base, c⟩
noncomputable def vPush (j : Nat) (e : VEnt) (n : Nat) (a : T VEnt) : Option (Nat × T VEnt) := whn (Nat.beq j n) (bnd (a.set n e) fun a' => some (Nat.succ n, a'))
noncomputable def v0 (c v : SVal) (n : Nat) (a : T VEnt) : Option (Nat × T VEnt) :=
  match c, v with
  | .bool x, .bool y => whn (x == y) (some (n, a))
  | .int k x, .int k' y => whn (kEq k k') (whn (eqI x y) (some (n, a)))
  | .nilSl, .nilSl => some (n, a)
  | .sl j d len (.rest q), .sl k off len' (.rest o) => whn (Nat.beq d 0) (whn (Nat.beq off 0) (whn (Nat.beq len len') (whn (Nat.beq q 0) (whn (Nat.beq o 0) (vPush j ⟨k, none⟩ n a)))))
  | .sl j d len (.rest q), .sl k off len' (.ex cc) => whn (Nat.beq d 0) (whn (Nat.beq off 0) (whn (Nat.beq len len') (whn (Nat.beq q 0) (vPush j ⟨k, some cc⟩ n a))))
  | _, _ => none
noncomputable def vLs : List SVal → List SVal → Nat → T VEnt → Option (Nat × T VEnt)
  | [], [], n, a => some (n, a)
  | c :: cs, v :: vs, n, a => bnd (v0 c v n a) fun p => vLs cs vs p.1 p.2
  | _, _, _, _ => none
noncomputable def vSlack (r : Row0) (e : VEnt) (b : Blk) : Bool :=
  match r.slack, e.ov with
  | none, _ => true
  | some sz, some c => Nat.ble r.cells.length (Nat.mul c sz)
  | some sz, none => oEq b.slack (some sz)
noncomputable def vRows (st : St) : List Row0 → Nat → Nat → T VEnt → Option (Nat × T VEnt)
  | [], _, n, a => some (n, a)
  | r :: rs, j, n, a => whn (Nat.ble (Nat.succ j) n) <| bnd (a.get j) fun e => bnd (st.blk e.k) fun b => whn (Nat.ble r.cells.length b.n) <| whn (vSlack r e b) <|
      bnd (readFrom b.c r.cells.length 0) fun l => bnd (vLs r.cells l n a) fun p => vRows st rs (Nat.succ j) p.1 p.2

noncomputable def sg (ρ : Val) (a : T VEnt) (n : Nat) : Val := fun j => if j < n then (a.get j).bind (locE ρ) else none
def VGrows (n : Nat) (a : T VEnt) (n' : Nat) (a' : T VEnt) : Prop := n ≤ n' ∧ ∀ j, j < n → a'.get j = a.get j
theorem VGrows.refl (n : Nat) (a : T VEnt) : VGrows n a n a := ⟨Nat.le_refl _, fun _ _ => rfl⟩
theorem VGrows.trans {n1 n2 n3 : Nat} {a1 a2 a3 : T VEnt} (h : VGrows n1 a1 n2 a2) (k : VGrows n2 a2 n3 a3) : VGrows n1 a1 n3 a3 :=
  ⟨Nat.le_trans h.1 k.1, fun j hj => (k.2 j (Nat.lt_of_lt_of_le hj h.1)).trans (h.2 j hj)⟩
theorem VGrows.le {n n' : Nat} {a a' : T VEnt} (h : VGrows n a n' a') (ρ : Val) : Le (sg ρ a n) (sg ρ a' n') := fun k l hk => by
  unfold sg at hk ⊢
  split at hk
  · rename_i hlt
    have := h.1
    rw [if_pos (by omega), h.2 k hlt]
    exact hk
  · cases hk
theorem vPush_ok {j n n' : Nat} {e : VEnt} {a a' : T VEnt} (h : vPush j e n a = some (n', a')) : VGrows n a n' a' ∧ ∀ ρ l, locE ρ e = some l → sg ρ a' n' j = some l := by
  unfold vPush at h
  rw [whn_some, bnd_some] at h
  obtain ⟨h1, a1, h2, h3⟩ := h
  cases h3
  have e1 := beq_true h1
  subst e1
  refine ⟨⟨Nat.le_succ _, fun i hi => by rw [T.set_spec h2, if_neg (by omega)]⟩, fun ρ l hl => ?_⟩
  unfold sg
  rw [if_pos (Nat.lt_succ_self _), T.set_spec h2, if_pos rfl]
  exact hl
theorem v0_ok {c v : SVal} {n n' : Nat} {a a' : T VEnt} (h : v0 c v n a = some (n', a')) : VGrows n a n' a' ∧ ∀ {ρ : Val} {x : Value}, den ρ v = some x → den (sg ρ a' n') c = some x := by
  unfold v0 at h
  split at h
  · rw [whn_some] at h
    have e := eq_of_beq h.1
    subst e
    have h2 := h.2
    cases h2
    exact ⟨VGrows.refl _ _, fun h => h⟩
  · rw [whn_some, whn_some] at h
    have e := kEq_eq h.1
    have e2 := h.2.1
    rw [eqI_eq, decide_eq_true_iff] at e2
    subst e e2
    have h2 := h.2.2
    cases h2
    exact ⟨VGrows.refl _ _, fun h => h⟩
  · cases h
    exact ⟨VGrows.refl _ _, fun h => h⟩
  · rw [whn_some, whn_some, whn_some, whn_some, whn_some] at h
    have e1 := beq_true h.1
    have e2 := beq_true h.2.1
    have e3 := beq_true h.2.2.1
    have e4 := beq_true h.2.2.2.1
    have e5 := beq_true h.2.2.2.2.1
    subst e1 e2 e3 e4 e5
    obtain ⟨h1, h2⟩ := vPush_ok h.2.2.2.2.2
    refine ⟨h1, fun {ρ x} hx => ?_⟩
    simp only [den, Option.map_eq_some_iff] at hx ⊢
    obtain ⟨l, h3, h4⟩ := hx
    exact ⟨l, h2 ρ l (by simp [locE, h3]), h4⟩
  · rw [whn_some, whn_some, whn_some, whn_some] at h
    have e1 := beq_true h.1
    have e2 := beq_true h.2.1
    have e3 := beq_true h.2.2.1
    have e4 := beq_true h.2.2.2.1
    subst e1 e2 e3 e4
    obtain ⟨h1, h2⟩ := vPush_ok h.2.2.2.2
    refine ⟨h1, fun {ρ x} hx => ?_⟩
    simp only [den, Option.map_eq_some_iff] at hx ⊢
    obtain ⟨l, h3, h4⟩ := hx
    exact ⟨⟨l.blk, l.base, _⟩, h2 ρ _ (by unfold locE; rw [h3]; rfl), h4⟩
  · cases h
theorem vLs_ok : ∀ {cs vs : List SVal} {n n' : Nat} {a a' : T VEnt}, vLs cs vs n a = some (n', a') → VGrows n a n' a' ∧ ∀ {ρ : Val} {xs : List Value}, denL ρ vs = some xs → denL (sg ρ a' n') cs = some xs
  | [], [], n, n', a, a', h => by
    have h : some (n, a) = some (n', a') := h
    cases h
    exact ⟨VGrows.refl _ _, fun h => h⟩
  | [], _ :: _, n, n', a, a', h => by
    have h : (none : Option (Nat × T VEnt)) = some (n', a') := h
    cases h
  | _ :: _, [], n, n', a, a', h => by
    have h : (none : Option (Nat × T VEnt)) = some (n', a') := h
    cases h
  | c :: cs, v :: vs, n, n', a, a', h => by
    have h : bnd (v0 c v n a) (fun p => vLs cs vs p.1 p.2) = some (n', a') := h
    rw [bnd_some] at h
    obtain ⟨p, h1, h2⟩ := h
    obtain ⟨h3, h4⟩ := v0_ok h1
    obtain ⟨h5, h6⟩ := vLs_ok h2
    refine ⟨h3.trans h5, fun {ρ xs} hx => ?_⟩
    obtain ⟨x, l, h7, h8, rfl⟩ := denL_cons.1 hx
    exact denL_cons.2 ⟨x, l, den_le (h5.le ρ) _ _ (h4 h7), h6 h8, rfl⟩
theorem vRows_ok {F : Fam} {st : St} : ∀ {rows : List Row0} {j n n' : Nat} {a a' : T VEnt}, vRows st rows j n a = some (n', a') →
    VGrows n a n' a' ∧ ∀ {ρ : Val} {w : World}, Rep ρ st.look w → ∀ (i : Nat) (row : Row0), rows[i]? = some row → ∃ l, sg ρ a' n' (j + i) = some l ∧ RowIs (sg ρ a' n') row l w
  | [], j, n, n', a, a', h => by
    have h : some (n, a) = some (n', a') := h
    cases h
    exact ⟨VGrows.refl _ _, fun _ i row hi => by simp at hi⟩
  | r :: rows, j, n, n', a, a', h => by
    have h : (whn (Nat.ble (Nat.succ j) n) <| bnd (a.get j) fun e => bnd (st.blk e.k) fun b => whn (Nat.ble r.cells.length b.n) <| whn (vSlack r e b) <|
      bnd (readFrom b.c r.cells.length 0) fun l => bnd (vLs r.cells l n a) fun p => vRows st rows (Nat.succ j) p.1 p.2) = some (n', a') := h
    rw [whn_some, bnd_some] at h
    obtain ⟨h0, e, h1, h⟩ := h
    rw [bnd_some] at h
    obtain ⟨b, h2, h⟩ := h
    rw [whn_some, whn_some, bnd_some] at h
    obtain ⟨h3, h4, ls, h5, h⟩ := h
    rw [bnd_some] at h
    obtain ⟨p, h6, h7⟩ := h
    obtain ⟨g1, g2⟩ := vLs_ok h6
    obtain ⟨g3, g4⟩ := vRows_ok h7
    have hj := ble_true h0
    have hle := ble_true h3
    refine ⟨g1.trans g3, fun {ρ w} hr i row hi => ?_⟩
    cases i with
    | succ i =>
      obtain ⟨l, k1, k2⟩ := g4 hr i row (by simpa using hi)
      exact ⟨l, by rw [← k1]; congr 1; omega, k2⟩
    | zero =>
      simp at hi
      subst hi
      obtain ⟨l0, k1, k2⟩ := hr.lies _ _ (blk_spec h2)
      have k2 : RowAt ρ b l0 w := k2
      have hrho : ∃ l, sg ρ a' n' (j + 0) = some l ∧ l.blk = l0.blk ∧ l.base = l0.base ∧ ∀ sz, r.slack = some sz → r.cells.length ≤ l.cap * sz := by
        have hn := (g1.trans g3).1
        unfold sg
        rw [if_pos (show j + 0 < n' by omega), (g1.trans g3).2 (j + 0) (by omega), Nat.add_zero, h1]
        obtain ⟨ek, eov⟩ := e
        cases eov with
        | none =>
          refine ⟨l0, by simp only [Option.bind_some, locE, k1, Option.map_some], rfl, rfl, fun sz hsz => ?_⟩
          unfold vSlack at h4
          rw [hsz] at h4
          have h4 := oEq_ok h4
          obtain ⟨_, _, _, _, _, _, q4⟩ := k2
          have := (q4 sz h4).1
          omega
        | some c =>
          refine ⟨⟨l0.blk, l0.base, c⟩, by simp only [Option.bind_some, locE, k1, Option.map_some], rfl, rfl, fun sz hsz => ?_⟩
          unfold vSlack at h4
          rw [hsz] at h4
          exact ble_true h4
      obtain ⟨l, s1, s2, s3, s4⟩ := hrho
      refine ⟨l, s1, ?_⟩
      obtain ⟨vs, m1, m2, m3⟩ := row_read k2 h5 (by omega)
      have m4 := denL_le (g3.le ρ) _ _ (g2 m1)
      obtain ⟨cs, el, fz, q1, q2, q3, q4⟩ := k2
      refine ⟨cs, el, fz, by rw [s2]; exact q1, fun x s hx => ?_, s4⟩
      obtain ⟨v, m5, m6⟩ := denL_get m4 hx
      refine ⟨v, m6, ?_⟩
      have := m3 x v m5
      simp only [World.cell?, q1] at this
      rw [s3]
      simpa using this

/-- a nest of depth t at an entry -/
noncomputable def eqE (a b : VEnt) : Bool := andB (Nat.beq a.k b.k) (oEq a.ov b.ov)
noncomputable def nestV (K : Kind) (st : St) : Nat → VEnt → Option Unit
  | 0, e => bnd (T.set T.nil 0 e) fun a => bnd (vRows st (rows0 K) 0 1 a) fun p => whn (Nat.beq p.1 (rows0 K).length) (some ())
  | t + 1, e => bnd (T.set T.nil 0 e) fun a => bnd (vRows st [⟨[r 1 1, .nilSl], some 2⟩, ⟨V0 (r 2 1) ++ V0 (r 3 1), some 18⟩] 0 1 a) fun p => whn (Nat.beq p.1 4) <| bnd (p.2.get 2) fun x => bnd (p.2.get 3) fun y =>
      Bool.rec (bnd (nestV K st t x) fun _ => nestV K st t y) (nestV K st t x) (eqE x y)
theorem nestV_ok {F : Fam} {K : Kind} {st : St} : ∀ {t : Nat} {e : VEnt}, nestV K st t e = some () → ∀ {ρ : Val} {w : World}, Rep ρ st.look w → ∃ l, locE ρ e = some l ∧ At K t l w
  | 0, e, h, ρ, w, hr => by
    have h : bnd (T.set T.nil 0 e) (fun a => bnd (vRows st (rows0 K) 0 1 a) fun p => whn (Nat.beq p.1 (rows0 K).length) (some ())) = some () := h
    rw [bnd_some] at h
    obtain ⟨a, h1, h⟩ := h
    rw [bnd_some] at h
    obtain ⟨⟨n, a'⟩, h2, h⟩ := h
    rw [whn_some] at h
    have hn : n = (rows0 K).length := beq_true h.1
    obtain ⟨g1, g2⟩ := vRows_ok h2
    have h0 : 0 < (rows0 K).length := by cases K <;> simp [rows0]
    have hit : ItemsAt (fun _ => False) (sg ρ a' n) (its K 0) w := by
      refine ⟨fun i x hi => ?_, fun i hi => ?_⟩
      · have hi : ((rows0 K).map some)[i]? = some x := hi
        rw [List.getElem?_map, Option.map_eq_some_iff] at hi
        obtain ⟨row, hi3, rfl⟩ := hi
        obtain ⟨l, h3, h4⟩ := g2 hr i row hi3
        exact ⟨l, by rw [Nat.zero_add] at h3; exact h3, h4⟩
      · have : ((rows0 K).map some).length ≤ i := hi
        rw [List.length_map] at this
        unfold sg
        rw [if_neg (by omega)]
    obtain ⟨l, h3, _⟩ := g2 hr 0 _ (List.getElem?_eq_getElem h0)
    refine ⟨l, ?_, sg ρ a' n, h3, hit⟩
    unfold sg at h3
    rw [if_pos (by omega), g1.2 _ (by omega), T.set_spec h1, if_pos rfl] at h3
    exact h3
  | t + 1, e, h, ρ, w, hr => by
    have h : bnd (T.set T.nil 0 e) (fun a => bnd (vRows st [⟨[r 1 1, .nilSl], some 2⟩, ⟨V0 (r 2 1) ++ V0 (r 3 1), some 18⟩] 0 1 a) fun p => whn (Nat.beq p.1 4) <| bnd (p.2.get 2) fun x => bnd (p.2.get 3) fun y =>
      @Bool.rec (fun _ => Option Unit) (bnd (nestV K st t x) fun _ => nestV K st t y) (nestV K st t x) (eqE x y)) = some () := h
    rw [bnd_some] at h
    obtain ⟨a, h1, h⟩ := h
    rw [bnd_some] at h
    obtain ⟨⟨n, a'⟩, h2, h⟩ := h
    rw [whn_some, bnd_some] at h
    obtain ⟨hn, x, hx, h⟩ := h
    rw [bnd_some] at h
    obtain ⟨y, hy, h⟩ := h
    have hn : n = 4 := beq_true hn
    subst hn
    have hx : a'.get 2 = some x := hx
    have hy : a'.get 3 = some y := hy
    obtain ⟨g1, g2⟩ := vRows_ok h2
    have both : nestV K st t x = some () ∧ nestV K st t y = some () := by
      cases he : eqE x y with
      | true =>
        rw [he] at h
        have h : nestV K st t x = some () := h
        obtain ⟨e1, e2⟩ := andB_true he
        have e1 := beq_true e1
        have e2 := oEq_ok e2
        have : y = x := by
          obtain ⟨xk, xo⟩ := x
          obtain ⟨yk, yo⟩ := y
          simp only at e1 e2
          rw [e1, e2]
        rw [this]
        exact ⟨h, h⟩
      | false =>
        rw [he] at h
        have h : bnd (nestV K st t x) (fun _ => nestV K st t y) = some () := h
        rw [bnd_some] at h
        obtain ⟨u, h3, h4⟩ := h
        exact ⟨h3, h4⟩
    obtain ⟨lx, x1, x2⟩ := nestV_ok both.1 hr
    obtain ⟨ly, y1, y2⟩ := nestV_ok both.2 hr
    have s2 : sg ρ a' 4 2 = some lx := by unfold sg; rw [if_pos (by omega), hx]; exact x1
    have s3 : sg ρ a' 4 3 = some ly := by unfold sg; rw [if_pos (by omega), hy]; exact y1
    have hit : ItemsAt (fun lc => At K t lc w) (sg ρ a' 4) rowsS w := by
      refine ⟨fun i z hi => ?_, fun i hi => ?_⟩
      · match i, hi with
        | 0, hi =>
          simp [rowsS] at hi
          subst hi
          obtain ⟨l, h3, h4⟩ := g2 hr 0 _ rfl
          exact ⟨l, h3, h4⟩
        | 1, hi =>
          simp [rowsS] at hi
          subst hi
          obtain ⟨l, h3, h4⟩ := g2 hr 1 _ rfl
          exact ⟨l, h3, h4⟩
        | 2, hi =>
          simp [rowsS] at hi
          subst hi
          exact ⟨lx, s2, x2, x2.lt⟩
        | 3, hi =>
          simp [rowsS] at hi
          subst hi
          exact ⟨ly, s3, y2, y2.lt⟩
        | i + 4, hi => simp [rowsS] at hi
      · simp [rowsS] at hi
        unfold sg
        rw [if_neg (by omega)]
    obtain ⟨l, h3, _⟩ := g2 hr 0 _ rfl
    refine ⟨l, ?_, sg ρ a' 4, h3, hit⟩
    unfold sg at h3
    rw [if_pos (by omega), g1.2 _ (by omega), T.set_spec h1, if_pos rfl] at h3
    exact h3
end Go.Proofs.YtpgkdhhlcpgjcaaGreatDoor
/-
  Lists in each other, seen from outside: the calls on them taken by contracts.
-/
namespace Go.Proofs.YtpgkdhhlcpgjcaaGreatDoor
open Ev Ev.Sh Go.RowKit
set_option maxRecDepth 100000
noncomputable def seeH : SVal → Option VEnt
  | .agg [.bool false, .bool false, .bool false, .bool false, .nilSl, .nilSl, .nilSl, .sl k 0 1 (.rest 0), .nilSl] => some ⟨k, none⟩
  | .agg [.bool false, .bool false, .bool false, .bool false, .nilSl, .nilSl, .nilSl, .sl k 0 1 (.ex c), .nilSl] => some ⟨k, some c⟩
  | _ => none
theorem seeH_den {ρ : Val} {a : SVal} {e : VEnt} {l : Ev.Loc} {v : Value} (h : seeH a = some e) (hl : locE ρ e = some l) (hv : den ρ a = some v) : v = hdV l := by
  unfold seeH at h
  split at h
  · cases h
    unfold locE at hl
    simp only [Option.map_eq_some_iff] at hl
    obtain ⟨l0, h1, rfl⟩ := hl
    simp only [den, denL, h1, Option.map_some, Option.bind_some, Option.some.injEq] at hv
    exact hv.symm
  · cases h
    unfold locE at hl
    simp only [Option.map_eq_some_iff] at hl
    obtain ⟨l0, h1, rfl⟩ := hl
    simp only [den, denL, h1, Option.map_some, Option.bind_some, Option.some.injEq] at hv
    exact hv.symm
  · cases h
noncomputable def nestA (K : Kind) (T : Nat) (st : St) (e : VEnt) : Option Unit :=
  Option.rec (motive := fun _ => Option Unit) (nestV K st T e) (fun _ => some ()) (Option.rec (motive := fun _ => Option Unit) (opqB st e.k) (fun _ => none) e.ov)
theorem nestA_ok {K : Kind} {T : Nat} {ρ : Val} {st : St} {w : World} {e : VEnt} (hr : @Rep (famK K (T + 1)) ρ st.look w) (h : nestA K T st e = some ()) : ∃ l, locE ρ e = some l ∧ At K T l w := by
  letI : Fam := famK K (T + 1)
  obtain ⟨k, ov⟩ := e
  unfold nestA at h
  cases ov with
  | some c => exact nestV_ok h hr
  | none =>
    cases hq : opqB st k with
    | none =>
      have h : @Option.rec Unit (fun _ => Option Unit) (nestV K st T ⟨k, none⟩) (fun _ => some ()) (opqB st k) = some () := h
      rw [hq] at h
      exact nestV_ok h hr
    | some u =>
      obtain ⟨q, h1⟩ := opqB_spec (st := st) (k := k) (by rw [hq])
      obtain ⟨l', h2, fp, h3, h4⟩ := hr.opq k q h1
      exact ⟨l', by unfold locE; rw [h2]; rfl, h4 w fun _ _ => rfl⟩
noncomputable def canT (K : Kind) (T : Nat) (args : List SVal) (st : St) : M (SVal × St) :=
  match args with
  | [a] => bnd (seeH a) fun e => bnd (nestA K T st e) fun _ => bnd (st.fresh (.opq 7)) fun p => some (.tup [.agg (V0 (r p.1 1)), bt], p.2)
  | _ => none
noncomputable def samT (K : Kind) (T : Nat) (args : List SVal) (st : St) : M (SVal × St) :=
  match args with
  | [a, b] => bnd (seeH a) fun e => bnd (nestA K T st e) fun _ => bnd (seeH b) fun e => bnd (nestA K T st e) fun _ => some (bt, st)
  | _ => none
noncomputable def sndT (K : Kind) (T : Nat) (args : List SVal) (st : St) : M (SVal × St) :=
  match args with
  | [a] => bnd (seeH a) fun e => bnd (nestA K T st e) fun _ => some (.bool (Bool.not (Bv K T 1)), st)
  | _ => none
theorem body_snd : Tryz.f40.body.isSome = true := by kernel_rfl
theorem canT_ok {K : Kind} {T : Nat} (ih : CanP K T) : @CallAt (famK K (T + 1)) Tryz.prog 62 (canT K T) := by
  letI : Fam := famK K (T + 1)
  intro args st s st' h
  unfold canT at h
  split at h
  · rename_i a
    rw [bnd_some] at h
    obtain ⟨e, h1, h⟩ := h
    rw [bnd_some] at h
    obtain ⟨_, h2, h⟩ := h
    rw [bnd_some] at h
    obtain ⟨⟨n, st1⟩, h3, h4⟩ := h
    cases h4
    refine ⟨fresh_sta h3, fun {ρ w} hr hwf hfree vs hvs => ?_⟩
    obtain ⟨v, xs, h5, h6, rfl⟩ := denL_cons.1 hvs
    rw [denL_nil] at h6
    subst h6
    obtain ⟨l, h7, hA⟩ := nestA_ok hr h2
    have ev := seeH_den h1 h7 h5
    subst ev
    obtain ⟨hf1, hf2⟩ := env_ok.funcs 62 Tryz.f62 (by kernel_rfl)
    refine call1_of_calls hf1 hf2 body_can ((ih w l hA).mono ?_)
    rintro e w' ⟨l', rfl, hS, hge, fp, hfp, hat⟩
    obtain ⟨e1, e2, _⟩ := fresh_spec h3
    have hfree : Free ρ st.next st1.next := hfree
    have hlt : l'.blk < w'.heap.size := (hat w' fun _ _ => rfl).lt
    obtain ⟨k1, k2⟩ := fresh_opq h3 hr (hfree n (by omega) (by omega)) hS l' hge hlt ⟨fp, hfp, fun w2 h => hat w2 h⟩
    refine ⟨_, rfl, _, ?_, k1, k2⟩
    have := hd_den (ρ := bind1 ρ n l') (k := n) (bind1_self _ _ _)
    show den _ (.tup [.agg (V0 (r n 1)), bt]) = _
    simp only [den, denL, bind1_self, Option.map_some, Option.bind_some]
    rfl
  · cases h
theorem samT_ok {K : Kind} {T : Nat} (ih : SamP K T) : @CallAt (famK K (T + 1)) Tryz.prog 64 (samT K T) := by
  letI : Fam := famK K (T + 1)
  intro args st s st' h
  unfold samT at h
  split at h
  · rename_i a b
    rw [bnd_some] at h
    obtain ⟨e, h1, h⟩ := h
    rw [bnd_some] at h
    obtain ⟨_, h2, h⟩ := h
    rw [bnd_some] at h
    obtain ⟨e', h3, h⟩ := h
    rw [bnd_some] at h
    obtain ⟨_, h4, h⟩ := h
    cases h
    refine ⟨Sta.refl _, fun {ρ w} hr hwf hfree vs hvs => ?_⟩
    obtain ⟨v, xs, h5, h6, rfl⟩ := denL_cons.1 hvs
    obtain ⟨v', xs, h7, h8, rfl⟩ := denL_cons.1 h6
    rw [denL_nil] at h8
    subst h8
    obtain ⟨l, h9, hA⟩ := nestA_ok hr h2
    obtain ⟨l', h10, hA'⟩ := nestA_ok hr h4
    have ev := seeH_den h1 h9 h5
    have ev' := seeH_den h3 h10 h7
    subst ev ev'
    obtain ⟨hf1, hf2⟩ := env_ok.funcs 64 Tryz.f64 (by kernel_rfl)
    refine call1_of_calls hf1 hf2 body_sam ((ih w l l' hA hA').mono ?_)
    rintro e w' ⟨rfl, hS⟩
    exact ⟨_, rfl, ρ, rfl, stands_rep hr hS, stands_step _ _ _ hS⟩
  · cases h
theorem sndT_ok {K : Kind} {T : Nat} (ih : SndP K T) : @CallAt (famK K (T + 1)) Tryz.prog 40 (sndT K T) := by
  letI : Fam := famK K (T + 1)
  intro args st s st' h
  unfold sndT at h
  split at h
  · rename_i a
    rw [bnd_some] at h
    obtain ⟨e, h1, h⟩ := h
    rw [bnd_some] at h
    obtain ⟨_, h2, h⟩ := h
    cases h
    refine ⟨Sta.refl _, fun {ρ w} hr hwf hfree vs hvs => ?_⟩
    obtain ⟨v, xs, h5, h6, rfl⟩ := denL_cons.1 hvs
    rw [denL_nil] at h6
    subst h6
    obtain ⟨l, h9, hA⟩ := nestA_ok hr h2
    have ev := seeH_den h1 h9 h5
    subst ev
    obtain ⟨hf1, hf2⟩ := env_ok.funcs 40 Tryz.f40 (by kernel_rfl)
    refine call1_of_calls hf1 hf2 body_snd ((ih w l hA).mono ?_)
    rintro e w' ⟨rfl, hS⟩
    exact ⟨_, rfl, ρ, rfl, stands_rep hr hS, stands_step _ _ _ hS⟩
  · cases h
noncomputable def extT (K : Kind) (T : Nat) (ex : Fct) (f : FuncId) : Option (List SVal → St → M (SVal × St)) :=
  Bool.rec (Bool.rec (Bool.rec (withF [ex] base1 f) (some (sndT K T)) (Nat.beq f 40)) (some (samT K T)) (Nat.beq f 64)) (some (canT K T)) (Nat.beq f 62)
theorem extT_ok {K : Kind} {T : Nat} (hT : T ≤ 14) {ex : Fct} (hex : @CallAt (famK K (T + 1)) Tryz.prog ex.f (useF ex)) : @ExtOk (famK K (T + 1)) Tryz.prog (extT K T ex) := fun f x h => by
  letI : Fam := famK K (T + 1)
  have h : @Bool.rec (fun _ => Option (List SVal → St → M (SVal × St))) (@Bool.rec (fun _ => Option (List SVal → St → M (SVal × St))) (@Bool.rec (fun _ => Option (List SVal → St → M (SVal × St))) (withF [ex] base1 f) (some (sndT K T)) (Nat.beq f 40)) (some (samT K T)) (Nat.beq f 64)) (some (canT K T)) (Nat.beq f 62) = some x := h
  cases h1 : Nat.beq f 62 with
  | true => rw [h1] at h; cases h; rw [beq_true h1]; exact canT_ok (can_all K T).1
  | false =>
    cases h2 : Nat.beq f 64 with
    | true => rw [h1, h2] at h; cases h; rw [beq_true h2]; exact samT_ok (can_all K T).2
    | false =>
      cases h3 : Nat.beq f 40 with
      | true => rw [h1, h2, h3] at h; cases h; rw [beq_true h3]; exact sndT_ok (snd_all K T hT)
      | false => rw [h1, h2, h3] at h; exact withF_ok (FactsOk.cons hex FactsOk.nil) base1_ok f x h
/-- the whole function at one input -/
noncomputable def topF (n : Int) (b : Bool) : Fct := ⟨3, [.int .i64 n, .bool b], [], bt, []⟩
theorem top_calls {K : Kind} {T : Nat} (hT : T ≤ 14) {ex : Fct} (hex : @CallAt (famK K (T + 1)) Tryz.prog ex.f (useF ex)) {n : Int} {b : Bool} (h : chk envT (extT K T ex) [] (topF n b) [] = true) (w : World) :
    Calls Tryz.prog 3 #[.int .i64 n, .bool b] w fun e w' => e = .returned (.bool true) ∧ Stands w w' := by
  letI : Fam := famK K (T + 1)
  refine Calls.mono (calls_closed (chk_calls env_ok (extT_ok hT hex) FactsOk.nil h) (args := [.int .i64 n, .bool b]) (s := bt) ?_ (vs := [.int .i64 n, .bool b]) rfl w) ?_
  · simp only [useF, topF]
    rw [show mLs mF [.int .i64 n, .bool b] [.int .i64 n, .bool b] 0 Ev.T.nil = some (0, Ev.T.nil) from ?_]
    · rfl
    · cases b <;> cases n <;> simp [mLs, mF, mUp, m0, kEq, eqI] <;> rfl
  rintro e w' ⟨v, rfl, ⟨ρ, hv⟩, hw⟩
  have hv : some (Value.bool true) = some v := hv
  cases hv
  exact ⟨rfl, hw⟩
end Go.Proofs.YtpgkdhhlcpgjcaaGreatDoor
