import Derived.Test.YtpgkdhhlcpgjcaaGreatDoorNestO
/-
  Lists in each other, however deep: the visit of all their parts.
-/
namespace Go.Proofs.YtpgkdhhlcpgjcaaGreatDoor
open Ev Ev.Sh Go.RowKit
set_option maxRecDepth 100000

/-- t + 1 lists in each other whose blocks are in S -/
def AtS (S : Nat → Prop) (K : Kind) : Nat → Ev.Loc → World → Prop
  | 0, l, w => ∃ ρ : Val, ρ 0 = some l ∧ ItemsAt (fun _ => False) ρ (its K 0) w ∧ ∀ i l, ρ i = some l → S l.blk
  | t + 1, l, w => ∃ ρ : Val, ρ 0 = some l ∧ ItemsAt (fun lc => AtS S K t lc w) ρ rowsS w ∧ ∀ i l, ρ i = some l → S l.blk
def ChildS (S : Nat → Prop) (K : Kind) (t : Nat) (w : World) (lc : Ev.Loc) : Prop :=
  match t with
  | 0 => False
  | t + 1 => AtS S K t lc w
theorem AtS.items {S : Nat → Prop} {K : Kind} {t : Nat} {l : Ev.Loc} {w : World} (h : AtS S K t l w) : ∃ ρ : Val, ρ 0 = some l ∧ ItemsAt (ChildS S K t w) ρ (its K t) w ∧ ∀ i l, ρ i = some l → S l.blk := by
  cases t with
  | zero => exact h
  | succ t => exact h
theorem AtS.keep {S : Nat → Prop} {K : Kind} : ∀ {t : Nat} {l : Ev.Loc} {w w2 : World}, AtS S K t l w → (∀ x, S x → x < w.heap.size → w2.heap[x]? = w.heap[x]?) → AtS S K t l w2
  | 0, l, w, w2, h, hk => by
    obtain ⟨ρ, h0, h1, hS⟩ := h
    refine ⟨ρ, h0, ⟨fun i x hi => ?_, h1.no⟩, hS⟩
    obtain ⟨lc, h2, h3⟩ := h1.at_ i x hi
    refine ⟨lc, h2, ?_⟩
    cases x with
    | none => exact h3.1.elim
    | some row => exact RowIs.keep h3 (hk _ (hS _ _ h2) (RowIs.lt h3))
  | t + 1, l, w, w2, h, hk => by
    obtain ⟨ρ, h0, h1, hS⟩ := h
    refine ⟨ρ, h0, ⟨fun i x hi => ?_, h1.no⟩, hS⟩
    obtain ⟨lc, h2, h3⟩ := h1.at_ i x hi
    refine ⟨lc, h2, ?_⟩
    cases x with
    | none => exact ⟨AtS.keep h3.1 hk, size_of_same h3.2 (hk _ (hS _ _ h2) h3.2)⟩
    | some row => exact RowIs.keep h3 (hk _ (hS _ _ h2) (RowIs.lt h3))
theorem AtS.mono {S S' : Nat → Prop} (hS : ∀ x, S x → S' x) {K : Kind} : ∀ {t : Nat} {l : Ev.Loc} {w : World}, AtS S K t l w → AtS S' K t l w
  | 0, l, w, h => by
    obtain ⟨ρ, h0, h1, h2⟩ := h
    exact ⟨ρ, h0, h1, fun i l h => hS _ (h2 i l h)⟩
  | t + 1, l, w, h => by
    obtain ⟨ρ, h0, h1, h2⟩ := h
    refine ⟨ρ, h0, ⟨fun i x hi => ?_, h1.no⟩, fun i l h => hS _ (h2 i l h)⟩
    obtain ⟨lc, h3, h4⟩ := h1.at_ i x hi
    refine ⟨lc, h3, ?_⟩
    cases x with
    | none => exact ⟨AtS.mono hS h4.1, h4.2⟩
    | some row => exact h4
theorem At.inS {K : Kind} : ∀ {t : Nat} {l : Ev.Loc} {w : World}, At K t l w → AtS (fun x => x < w.heap.size) K t l w
  | 0, l, w, h => by
    obtain ⟨ρ, h0, h1⟩ := h
    refine ⟨ρ, h0, h1, fun i l hl => ?_⟩
    rcases Nat.lt_or_ge i (its K 0).length with hi | hi
    · obtain ⟨lc, h2, h3⟩ := h1.at_ i _ (List.getElem?_eq_getElem hi)
      rw [hl] at h2
      cases h2
      exact h3.lt
    · rw [h1.no i hi] at hl; cases hl
  | t + 1, l, w, h => by
    obtain ⟨ρ, h0, h1⟩ := h
    refine ⟨ρ, h0, ⟨fun i x hi => ?_, h1.no⟩, fun i l hl => ?_⟩
    · obtain ⟨lc, h3, h4⟩ := h1.at_ i x hi
      refine ⟨lc, h3, ?_⟩
      cases x with
      | none => exact ⟨At.inS h4.1, h4.2⟩
      | some row => exact h4
    · rcases Nat.lt_or_ge i rowsS.length with hi | hi
      · obtain ⟨lc, h2, h3⟩ := h1.at_ i _ (List.getElem?_eq_getElem hi)
        rw [hl] at h2
        cases h2
        exact h3.lt
      · rw [h1.no i hi] at hl; cases hl

noncomputable def mxI (d m : Int) : Int := Bool.rec d m (ltI d m)
theorem mxI_eq (d m : Int) : mxI d m = max d m := by
  unfold mxI
  rw [ltI_eq]
  by_cases h : d < m
  · simp [h]; omega
  · simp [h]; omega
theorem AtS.to {S : Nat → Prop} {K : Kind} : ∀ {t : Nat} {l : Ev.Loc} {w : World}, AtS S K t l w → At K t l w
  | 0, l, w, h => by
    obtain ⟨ρ, h0, h1, h2⟩ := h
    exact ⟨ρ, h0, h1⟩
  | t + 1, l, w, h => by
    obtain ⟨ρ, h0, h1, h2⟩ := h
    refine ⟨ρ, h0, ⟨fun i x hi => ?_, h1.no⟩⟩
    obtain ⟨lc, h3, h4⟩ := h1.at_ i x hi
    refine ⟨lc, h3, ?_⟩
    cases x with
    | none => exact ⟨AtS.to h4.1, h4.2⟩
    | some row => exact h4
def IsRow (w : World) (x : Nat) : Prop := ∃ cs e fz, w.heap[x]? = some (.cells cs e fz)
theorem At.head {K : Kind} {t : Nat} {l : Ev.Loc} {w : World} (h : At K t l w) : IsRow w l.blk := by
  obtain ⟨ρ, h1, h2⟩ := h.items
  obtain ⟨l', h3, h4⟩ := h2.at_ 0 _ (List.getElem?_eq_getElem (its_pos K t))
  rw [h1] at h3
  cases h3
  have : ∃ row, (its K t)[0]'(its_pos K t) = some row := by
    cases t with
    | zero => cases K <;> exact ⟨_, rfl⟩
    | succ t => exact ⟨_, rfl⟩
  obtain ⟨row, hrow⟩ := this
  rw [hrow] at h4
  obtain ⟨cs, e, fz, h5, _⟩ := h4
  exact ⟨cs, e, fz, h5⟩
theorem At.rows {K : Kind} : ∀ {t : Nat} {l : Ev.Loc} {w : World}, At K t l w → AtS (IsRow w) K t l w
  | 0, l, w, h => by
    obtain ⟨ρ, h0, h1⟩ := h
    refine ⟨ρ, h0, h1, fun i l hl => ?_⟩
    rcases Nat.lt_or_ge i (its K 0).length with hi | hi
    · obtain ⟨lc, h2, h3⟩ := h1.at_ i _ (List.getElem?_eq_getElem hi)
      rw [hl] at h2
      cases h2
      cases hx : (its K 0)[i] with
      | none => rw [hx] at h3; exact h3.1.elim
      | some row =>
        rw [hx] at h3
        obtain ⟨cs, e, fz, h5, _⟩ := h3
        exact ⟨cs, e, fz, h5⟩
    · rw [h1.no i hi] at hl; cases hl
  | t + 1, l, w, h => by
    obtain ⟨ρ, h0, h1⟩ := h
    refine ⟨ρ, h0, ⟨fun i x hi => ?_, h1.no⟩, fun i l hl => ?_⟩
    · obtain ⟨lc, h3, h4⟩ := h1.at_ i x hi
      refine ⟨lc, h3, ?_⟩
      cases x with
      | none => exact ⟨At.rows h4.1, h4.2⟩
      | some row => exact h4
    · rcases Nat.lt_or_ge i rowsS.length with hi | hi
      · obtain ⟨lc, h2, h3⟩ := h1.at_ i _ (List.getElem?_eq_getElem hi)
        rw [hl] at h2
        cases h2
        cases hx : rowsS[i] with
        | none => rw [hx] at h3; exact At.head h3.1
        | some row =>
          rw [hx] at h3
          obtain ⟨cs, e, fz, h5, _⟩ := h3
          exact ⟨cs, e, fz, h5⟩
      · rw [h1.no i hi] at hl; cases hl
/-- what holds as long as some blocks stand lies in these blocks -/
theorem At.within {K : Kind} {t : Nat} {l : Ev.Loc} {w : World} {fp : Nat → Prop} (h : ∀ w2 : World, (∀ x, fp x → w2.heap[x]? = w.heap[x]?) → At K t l w2) : AtS fp K t l w := by
  classical
  let w2 : World := { w with heap := w.heap.mapIdx fun x o => if fp x then o else .deferred none }
  have hw2 : ∀ x, w2.heap[x]? = (w.heap[x]?).map fun o => if fp x then o else .deferred none := fun x => by
    show (w.heap.mapIdx _)[x]? = _
    rw [Array.getElem?_mapIdx]
  have h1 := (h w2 fun x hx => by
    rw [hw2 x]
    cases w.heap[x]? with
    | none => rfl
    | some o => simp [hx]).rows
  have h2 : AtS fp K t l w2 := h1.mono fun x hx => by
    obtain ⟨cs, e, fz, h3⟩ := hx
    rw [hw2 x] at h3
    cases hx : w.heap[x]? with
    | none => rw [hx] at h3; cases h3
    | some o =>
      rw [hx] at h3
      by_cases hf : fp x
      · exact hf
      · simp [hf] at h3
  exact h2.keep fun x hx _ => by
    rw [hw2 x]
    cases w.heap[x]? with
    | none => rfl
    | some o => simp [hx]

def VisP (K : Kind) (t : Nat) (lev N M : Int) (B : Bool) : Prop := ∀ (w : World) (l : Ev.Loc) (q : Nat) (c d : Int) (b : Bool), AtS (fun x => x ≠ q) K t l w → w.heap[q]? = some (.cells #[.int .i64 c, .int .i64 d, .bool b] 133 (0, 0)) →
  Calls Tryz.prog 87 #[.pointer (some ⟨q, 0, none⟩), hdV l, .int .i64 lev] w fun e w' => e = .returned (.tuple #[]) ∧ But q w w' ∧ w'.heap[q]? = some (.cells #[.int .i64 (wrapF .i64 (c + N)), .int .i64 (mxI d M), .bool (b || B)] 133 (0, 0))

noncomputable def lev3 : List SVal → Option (Int × Int × Bool)
  | [.int .i64 c, .int .i64 d, .bool b] => some (c, d, b)
  | _ => none
theorem lev3_spec {l : List SVal} {x : Int × Int × Bool} (h : lev3 l = some x) : l = [.int .i64 x.1, .int .i64 x.2.1, .bool x.2.2] := by
  unfold lev3 at h
  split at h
  · cases h; rfl
  · cases h
/-- the three cells of a walker of one's own -/
noncomputable def walk3 (st : St) (k : Nat) : Option (Int × Int × Bool) := bnd (st.blk k) fun b => whn b.own <| whn (Nat.beq b.n 3) <| whn (oEq b.slack none) <| whn (Nat.beq b.elem 133) <| bnd (readFrom b.c 3 0) lev3
theorem walk3_spec {F : Fam} {st : St} {k : Nat} {x : Int × Int × Bool} (h : walk3 st k = some x) {ρ : Val} {w : World} (hr : Rep ρ st.look w) {l : Ev.Loc} (hl : ρ k = some l) :
    ∃ b, st.look k = some (.cells b) ∧ b.own = true ∧ b.n = 3 ∧ b.slack = none ∧ l.base = 0 ∧ w.heap[l.blk]? = some (.cells #[.int .i64 x.1, .int .i64 x.2.1, .bool x.2.2] 133 (0, 0)) := by
  unfold walk3 at h
  rw [bnd_some] at h
  obtain ⟨b, h1, h⟩ := h
  rw [whn_some, whn_some, whn_some, whn_some, bnd_some] at h
  obtain ⟨h2, h3, h4, h5, ls, h6, h7⟩ := h
  have h3 := beq_true h3
  have h4 := oEq_ok h4
  have h5 := beq_true h5
  have h7 := lev3_spec h7
  subst h7
  have hlk := blk_spec h1
  obtain ⟨l', g1, g2⟩ := hr.lies k _ hlk
  rw [hl] at g1
  cases g1
  have g2 : RowAt ρ b l w := g2
  obtain ⟨vs, r1, r2, r3⟩ := row_read g2 h6 (by omega)
  obtain ⟨cs, e, fz, a1, a2, a3, a4⟩ := g2
  obtain ⟨z1, z2, z3, z4⟩ := a3 h2
  have hvs : some [Value.int .i64 x.1, .int .i64 x.2.1, .bool x.2.2] = some vs := r1
  cases hvs
  have z4 := z4 h4
  subst z2
  have key : cs = #[.int .i64 x.1, .int .i64 x.2.1, .bool x.2.2] := by
    have c0 := r3 0 _ rfl
    have c1 := r3 1 _ rfl
    have c2 := r3 2 _ rfl
    simp only [World.cell?, a1, z1] at c0 c1 c2
    apply Array.ext_getElem?
    intro j
    match j with
    | 0 => simpa using c0
    | 1 => simpa using c1
    | 2 => simpa using c2
    | j + 3 => rw [Array.getElem?_eq_none (by omega)]; simp
  refine ⟨b, hlk, h2, h3, h4, z1, ?_⟩
  rw [a1, key, z3, h5]

noncomputable def visX (lev N M : Int) (B : Bool) (args : List SVal) (st : St) : Option (SVal × St) :=
  match args with
  | [.ptr k 0, a, .int .i64 L] => whn (eqI L lev) <| bnd (hdS a) fun k2 => bnd (opqB st k2) fun _ => bnd (walk3 st k) fun x => bnd (storeS st k 0 [.int .i64 (wrapF .i64 (x.1 + N)), .int .i64 (mxI x.2.1 M), .bool (x.2.2 || B)]) fun st' => some (.tup [], st')
  | _ => none
theorem body_vis : Tryz.f87.body.isSome = true := by kernel_rfl
theorem visX_ok {K : Kind} {t : Nat} {lev N M : Int} {B : Bool} (ih : VisP K t lev N M B) : @CallAt (famK K (t + 1)) Tryz.prog 87 (visX lev N M B) := by
  letI : Fam := famK K (t + 1)
  intro args st s st' h
  unfold visX at h
  split at h
  · rename_i k a L
    rw [whn_some, bnd_some] at h
    obtain ⟨h0, k2, h1, h⟩ := h
    rw [eqI_eq, decide_eq_true_iff] at h0
    subst h0
    rw [bnd_some] at h
    obtain ⟨_, h2, h⟩ := h
    rw [bnd_some] at h
    obtain ⟨x, h3, h⟩ := h
    rw [bnd_some] at h
    obtain ⟨st1, h4, h5⟩ := h
    cases h5
    have e := hdS_spec h1
    subst e
    refine ⟨(storeS_sta h4).1, fun {ρ w} hr hwf hfree vs hvs => ?_⟩
    obtain ⟨v, xs, a1, a2, rfl⟩ := denL_cons.1 hvs
    obtain ⟨v2, xs, a3, a4, rfl⟩ := denL_cons.1 a2
    obtain ⟨v3, xs, a5, a6, rfl⟩ := denL_cons.1 a4
    rw [denL_nil] at a6
    subst a6
    cases a5
    obtain ⟨lc, b1, rfl⟩ := den_hd a3
    have hk : ∃ lk, ρ k = some lk ∧ v = .pointer (some ⟨lk.blk, lk.base + 0, none⟩) := by
      simp only [den, Option.map_eq_some_iff] at a1
      obtain ⟨lk, c1, c2⟩ := a1
      exact ⟨lk, c1, c2.symm⟩
    obtain ⟨lk, c1, rfl⟩ := hk
    obtain ⟨bb, d1, d2, d3, d4, d5, d6⟩ := walk3_spec h3 hr c1
    obtain ⟨q, e1⟩ := opqB_spec h2
    obtain ⟨lc', e2, fp, e3, e4⟩ := hr.opq k2 q e1
    rw [b1] at e2
    cases e2
    have hA : AtS (fun x => x ≠ lk.blk) K t lc w := (At.within (fp := fp) fun w2 h => e4 w2 h).mono fun x hx (e : x = lk.blk) => (e3 x hx).2.2 ⟨k, _, lk, d1, d2, c1, e.symm⟩
    obtain ⟨hf1, hf2⟩ := env_ok.funcs 87 Tryz.f87 (by kernel_rfl)
    rw [d5]
    refine call1_of_calls hf1 hf2 body_vis ((ih w lc lk.blk x.1 x.2.1 x.2.2 hA d6).mono ?_)
    rintro e w' ⟨rfl, hB, hw⟩
    obtain ⟨k1, k2⟩ := but_rep hr h4 d1 d4 (by rw [d3]; rfl) c1 (vs := [.int .i64 (wrapF .i64 (x.1 + N)), .int .i64 (mxI x.2.1 M), .bool (x.2.2 || B)]) rfl hB ⟨_, d6⟩ hw
    exact ⟨_, rfl, ρ, rfl, k1, k2⟩
  · cases h
noncomputable def extV (lev N M : Int) (B : Bool) (f : FuncId) : Option (List SVal → St → Option (SVal × St)) := Bool.rec (base1 f) (some (visX lev N M B)) (Nat.beq f 87)
theorem extV_ok {K : Kind} {t : Nat} {lev N M : Int} {B : Bool} (ih : VisP K t lev N M B) : @ExtOk (famK K (t + 1)) Tryz.prog (extV lev N M B) := fun f x h => by
  letI : Fam := famK K (t + 1)
  have h : @Bool.rec (fun _ => Option (List SVal → St → Option (SVal × St))) (base1 f) (some (visX lev N M B)) (Nat.beq f 87) = some x := h
  cases h1 : Nat.beq f 87 with
  | true => rw [h1] at h; cases h; rw [beq_true h1]; exact visX_ok ih
  | false => rw [h1] at h; exact base1_ok f x h

/-- items that are there, and a walker of one's own -/
theorem pstO_own {F : Fam} {items : List (Option Row0)} {st st1 : St} {B : Blk} {k : Nat} (h : pstO items = some st) (h1 : st.fresh (.cells B) = some (k, st1)) {C : Ev.Loc → Prop} {ρ : Val} {w : World} {l0 : Ev.Loc} (hi : ItemsAt C ρ items w) (hS : ∀ i l, ρ i = some l → l.blk ≠ l0.blk)
    (hC : ∀ l, C l → ∀ w2 : World, (∀ x, x < w.heap.size → x ≠ l0.blk → w2.heap[x]? = w.heap[x]?) → F.At 7 l w2) (hrow : RowAt (bind1 ρ k l0) B l0 w) :
    Rep (bind1 ρ k l0) st1.look w ∧ Wf st1 ∧ k = items.length ∧ st1.next = items.length + 1 ∧ ∀ r, Owns (bind1 ρ k l0) st1.look r → r = l0.blk := by
  obtain ⟨q1, q2, _, q3, q4⟩ := pstO_ok h
  obtain ⟨rfl, f2, f3, f4, f5, f6⟩ := fresh_spec h1
  have hk : ρ st.next = none := hi.no _ (by omega)
  have hle := bind1_le l0 hk
  have noown : ∀ k o, st.look k = some o → own o = false := fun k o hk => by
    obtain ⟨x, _, h6⟩ := q4 k o hk
    rcases itemO_some h6 with ⟨_, rfl⟩ | ⟨r, c, _, rfl, _⟩ <;> rfl
  have old : ∀ m o', st1.look m = some o' → m ≠ st.next → st.look m = some o' := fun m o' hm hne => by
    rw [look_eq, f3, f6, if_neg hne] at hm
    rw [look_eq]; exact hm
  have new : ∀ o', st1.look st.next = some o' → o' = .cells B := fun o' hm => by
    have := (look_of hm).1
    rw [f6, if_pos rfl] at this
    exact (Option.some.inj this).symm
  have oldAt : ∀ m o', st.look m = some o' → ∃ x l, items[m]? = some x ∧ itemO x = some o' ∧ ρ m = some l ∧ ItemIs C ρ x l w := fun m o' hm => by
    obtain ⟨x, h5, h6⟩ := q4 m o' hm
    obtain ⟨l, h7, h8⟩ := hi.at_ m x h5
    exact ⟨x, l, h5, h6, h7, h8⟩
  have owns : ∀ r, Owns (bind1 ρ st.next l0) st1.look r → r = l0.blk := fun r ⟨m, o, l, a, b, c, d⟩ => by
    by_cases e : m = st.next
    · subst e
      rw [bind1_self] at c
      cases c
      exact d.symm
    · rw [noown m o (old m o a e)] at b
      cases b
  refine ⟨⟨fun m o hm => ?_, fun m j o1 o2 l l' hm hj hne hown hl hl' => ?_, fun m t hm => ?_⟩, q3.sta (fresh_sta h1), q1, by omega, owns⟩
  · by_cases e : m = st.next
    · subst e
      cases new _ hm
      exact ⟨l0, bind1_self _ _ _, hrow⟩
    · obtain ⟨x, l, h5, h6, h7, h8⟩ := oldAt m o (old m o hm e)
      refine ⟨l, hle _ _ h7, ?_⟩
      rcases itemO_some h6 with ⟨rfl, rfl⟩ | ⟨r, c, rfl, rfl, h9⟩
      · exact h8.2
      · exact ObjAt.keep (o := .cells _) (RowIs.row h8 h9) hle rfl
  · by_cases e : m = st.next
    · subst e
      rw [bind1_self] at hl
      cases hl
      rw [bind1_ne _ (fun e => hne e.symm)] at hl'
      exact (hS j l' hl').symm
    · rw [noown m o1 (old m o1 hm e)] at hown
      cases hown
  · by_cases e : m = st.next
    · subst e
      cases new _ hm
    · obtain ⟨x, l, h5, h6, h7, h8⟩ := oldAt m _ (old m _ hm e)
      rcases itemO_some h6 with ⟨rfl, h9⟩ | ⟨r, c, _, h9, _⟩
      · cases h9
        exact ⟨l, hle _ _ h7, fun x => x < w.heap.size ∧ x ≠ l0.blk, fun x hx => ⟨Nat.zero_le _, hx.1, fun ho => hx.2 (owns x ho)⟩, fun w2 h10 => hC l h8.1 w2 fun x h11 h12 => h10 x ⟨h11, h12⟩⟩
      · cases h9

noncomputable def visRun (ext : FuncId → Option (List SVal → St → Option (SVal × St))) (items : List (Option Row0)) (lev c d : Int) (b : Bool) : Option (Int × Int × Bool) :=
  bnd (pstO items) fun st => bnd (T.lay T.nil 0 [.int .i64 c, .int .i64 d, .bool b]) fun tr => bnd (st.fresh (.cells ⟨3, tr, 133, none, true⟩)) fun p =>
    bnd (callFn envT (run envT ext 100000) Tryz.f87 [.ptr p.1 0, .agg (V0 (r 0 1)), .int .i64 lev] p.2) fun q => bnd (walk3 q.2 p.1) fun x => match q.1 with | .tup [] => some x | _ => none
theorem vis_of_run {K : Kind} {t : Nat} {lev N M : Int} {B : Bool} {ext : FuncId → Option (List SVal → St → Option (SVal × St))} (hext : @ExtOk (famK K t) Tryz.prog ext)
    (hrun : ∀ c d b, visRun ext (its K t) lev c d b = some (wrapF .i64 (c + N), mxI d M, (b || B))) : VisP K t lev N M B := by
  letI : Fam := famK K t
  intro w l q c d b hA hq
  obtain ⟨ρ, hρ, hI, hS⟩ := hA.items
  have hrun := hrun c d b
  unfold visRun at hrun
  rw [bnd_some] at hrun
  obtain ⟨st, g1, hrun⟩ := hrun
  rw [bnd_some] at hrun
  obtain ⟨tr, g2, hrun⟩ := hrun
  rw [bnd_some] at hrun
  obtain ⟨⟨k, st1⟩, g3, hrun⟩ := hrun
  rw [bnd_some] at hrun
  obtain ⟨⟨s, st'⟩, g4, hrun⟩ := hrun
  rw [bnd_some] at hrun
  obtain ⟨x, g5, g6⟩ := hrun
  have hs : s = .tup [] ∧ x = (wrapF .i64 (c + N), mxI d M, (b || B)) := by
    revert g6
    show (match s with | .tup [] => some x | _ => none) = _ → _
    split
    · intro g6; cases g6; exact ⟨rfl, rfl⟩
    · intro g6; cases g6
  obtain ⟨rfl, rfl⟩ := hs
  have hrow : RowAt (bind1 ρ k ⟨q, 0, 0⟩) ⟨3, tr, 133, none, true⟩ ⟨q, 0, 0⟩ w := by
    refine ⟨_, _, _, hq, fun i hi => ?_, fun _ => ⟨rfl, rfl, rfl, fun _ => rfl⟩, fun sz hsz => by cases hsz⟩
    have hi : i < 3 := hi
    have h := T.lay_spec g2 i
    rw [if_pos ⟨Nat.zero_le _, by simpa using hi⟩, Nat.sub_zero] at h
    match i, hi with
    | 0, _ => exact ⟨_, _, h, rfl, rfl⟩
    | 1, _ => exact ⟨_, _, h, rfl, rfl⟩
    | 2, _ => exact ⟨_, _, h, rfl, rfl⟩
  have hCC : ∀ lc, ChildS (fun x => x ≠ q) K t w lc → ∀ w2 : World, (∀ x, x < w.heap.size → x ≠ q → w2.heap[x]? = w.heap[x]?) → (famK K t).At 7 lc w2 := fun lc h w2 hk => by
    cases t with
    | zero => exact h
    | succ t => exact (AtS.keep h fun x h1 h2 => hk x h2 h1).to
  obtain ⟨hrep, hwf, hk, hnext, howns⟩ := pstO_own g1 g3 hI (l0 := ⟨q, 0, 0⟩) hS hCC hrow
  have hfn : envT.funcs.get 87 = some Tryz.f87 := by kernel_rfl
  obtain ⟨k1, k2⟩ := callFn_calls env_ok (run_ok env_ok hext 100000).1 hfn g4
  have hfree : Free (bind1 ρ k ⟨q, 0, 0⟩) st1.next st'.next := fun m hm _ => by
    rw [bind1_ne _ (by omega)]
    exact hI.no m (by omega)
  have hkn : ρ k = none := hI.no k (by omega)
  have hd : denL (bind1 ρ k ⟨q, 0, 0⟩) [.ptr k 0, .agg (V0 (r 0 1)), .int .i64 lev] = some [.pointer (some ⟨q, 0, none⟩), hdV l, .int .i64 lev] := by
    refine denL_cons.2 ⟨_, _, by simp only [den, bind1_self, Option.map_some], denL_cons.2 ⟨_, _, hd_den (bind1_le _ hkn _ _ hρ), denL_cons.2 ⟨_, [], rfl, rfl, rfl⟩, rfl⟩, rfl⟩
  refine (k2 hrep hwf hfree hd).mono ?_
  rintro e w' ⟨v, rfl, ρ1, hv, hr1, hs1⟩
  have hv : some (Value.tuple #[]) = some v := hv
  cases hv
  have hl1 : ρ1 k = some ⟨q, 0, 0⟩ := hs1.le _ _ (bind1_self _ _ _)
  obtain ⟨bb, _, _, _, _, _, hw⟩ := walk3_spec g5 hr1 hl1
  exact ⟨rfl, ⟨hs1.os, hs1.tape, hs1.output, hs1.size, fun x hx hne => hs1.kept x hx fun ho => hne (howns x ho)⟩, hw⟩
end Go.Proofs.YtpgkdhhlcpgjcaaGreatDoor
/-
  Lists in each other, however deep: the visit, from level to level.
-/
namespace Go.Proofs.YtpgkdhhlcpgjcaaGreatDoor
open Ev Ev.Sh Go.RowKit
set_option maxRecDepth 100000
theorem wrap2 (a b : Int) : wrapF .i64 (wrapF .i64 a + b) = wrapF .i64 (a + b) := by
  rw [wrapF_eq, wrapF_eq, wrapF_eq]
  have e : (2 : Int) ^ 64 = 18446744073709551616 := by decide
  have e2 : (2 : Int) ^ (64 - 1) = 9223372036854775808 := by decide
  simp only [IntKind.wrap, IntKind.bits, IntKind.signed, e, e2, Bool.true_and]
  split <;> split <;> split <;> simp only [decide_eq_true_eq, ge_iff_le, Int.not_le] at * <;> omega
theorem mx2 {a b : Int} (d : Int) (h : a ≤ b) : mxI (mxI d a) b = mxI d b := by
  rw [mxI_eq, mxI_eq, mxI_eq]
  omega
theorem or2 (b B : Bool) : ((b || B) || B) = (b || B) := by cases b <;> cases B <;> rfl

def Nv : Kind → Nat → Int
  | .num, 0 => 3
  | .str, 0 => 7
  | K, t + 1 => 1 + 2 * Nv K t
def Mv : Kind → Nat → Int → Int
  | .num, 0, lev => lev + 1
  | .str, 0, lev => lev + 2
  | K, t + 1, lev => Mv K t (lev + 1)
def Bv : Kind → Nat → Int → Bool
  | .num, 0, _ => false
  | .str, 0, lev => decide (16 < lev + 2)
  | K, t + 1, lev => Bv K t (lev + 1)
theorem Mv_le : ∀ (K : Kind) (t : Nat) (lev : Int), lev ≤ Mv K t lev
  | .num, 0, lev => by simp only [Mv]; omega
  | .str, 0, lev => by simp only [Mv]; omega
  | .num, t + 1, lev => by have := Mv_le .num t (lev + 1); simp only [Mv]; omega
  | .str, t + 1, lev => by have := Mv_le .str t (lev + 1); simp only [Mv]; omega
theorem vis_ends {lev N M c d : Int} {b B : Bool} (h : lev ≤ M) : some (wrapF .i64 (wrapF .i64 (wrapF .i64 (c + 1) + N) + N), mxI (mxI (mxI d lev) M) M, ((b || B) || B)) = some (wrapF .i64 (c + (1 + 2 * N)), mxI d M, (b || B)) := by
  rw [wrap2, Int.add_assoc, wrap2, mx2 d h, mx2 d (Int.le_refl M), or2, show c + 1 + (N + N) = c + (1 + 2 * N) by omega]
theorem vis_1 (N M c d : Int) (B b : Bool) : visRun (extV 2 N M B) rowsS 1 c d b = some (wrapF .i64 (wrapF .i64 (wrapF .i64 (c + 1) + N) + N), mxI (mxI (mxI d 1) M) M, ((b || B) || B)) := by kernel_rfl
theorem vis_2 (N M c d : Int) (B b : Bool) : visRun (extV 3 N M B) rowsS 2 c d b = some (wrapF .i64 (wrapF .i64 (wrapF .i64 (c + 1) + N) + N), mxI (mxI (mxI d 2) M) M, ((b || B) || B)) := by kernel_rfl
theorem vis_3 (N M c d : Int) (B b : Bool) : visRun (extV 4 N M B) rowsS 3 c d b = some (wrapF .i64 (wrapF .i64 (wrapF .i64 (c + 1) + N) + N), mxI (mxI (mxI d 3) M) M, ((b || B) || B)) := by kernel_rfl
theorem vis_4 (N M c d : Int) (B b : Bool) : visRun (extV 5 N M B) rowsS 4 c d b = some (wrapF .i64 (wrapF .i64 (wrapF .i64 (c + 1) + N) + N), mxI (mxI (mxI d 4) M) M, ((b || B) || B)) := by kernel_rfl
theorem vis_5 (N M c d : Int) (B b : Bool) : visRun (extV 6 N M B) rowsS 5 c d b = some (wrapF .i64 (wrapF .i64 (wrapF .i64 (c + 1) + N) + N), mxI (mxI (mxI d 5) M) M, ((b || B) || B)) := by kernel_rfl
theorem vis_6 (N M c d : Int) (B b : Bool) : visRun (extV 7 N M B) rowsS 6 c d b = some (wrapF .i64 (wrapF .i64 (wrapF .i64 (c + 1) + N) + N), mxI (mxI (mxI d 6) M) M, ((b || B) || B)) := by kernel_rfl
theorem vis_7 (N M c d : Int) (B b : Bool) : visRun (extV 8 N M B) rowsS 7 c d b = some (wrapF .i64 (wrapF .i64 (wrapF .i64 (c + 1) + N) + N), mxI (mxI (mxI d 7) M) M, ((b || B) || B)) := by kernel_rfl
theorem vis_8 (N M c d : Int) (B b : Bool) : visRun (extV 9 N M B) rowsS 8 c d b = some (wrapF .i64 (wrapF .i64 (wrapF .i64 (c + 1) + N) + N), mxI (mxI (mxI d 8) M) M, ((b || B) || B)) := by kernel_rfl
theorem vis_9 (N M c d : Int) (B b : Bool) : visRun (extV 10 N M B) rowsS 9 c d b = some (wrapF .i64 (wrapF .i64 (wrapF .i64 (c + 1) + N) + N), mxI (mxI (mxI d 9) M) M, ((b || B) || B)) := by kernel_rfl
theorem vis_10 (N M c d : Int) (B b : Bool) : visRun (extV 11 N M B) rowsS 10 c d b = some (wrapF .i64 (wrapF .i64 (wrapF .i64 (c + 1) + N) + N), mxI (mxI (mxI d 10) M) M, ((b || B) || B)) := by kernel_rfl
theorem vis_11 (N M c d : Int) (B b : Bool) : visRun (extV 12 N M B) rowsS 11 c d b = some (wrapF .i64 (wrapF .i64 (wrapF .i64 (c + 1) + N) + N), mxI (mxI (mxI d 11) M) M, ((b || B) || B)) := by kernel_rfl
theorem vis_12 (N M c d : Int) (B b : Bool) : visRun (extV 13 N M B) rowsS 12 c d b = some (wrapF .i64 (wrapF .i64 (wrapF .i64 (c + 1) + N) + N), mxI (mxI (mxI d 12) M) M, ((b || B) || B)) := by kernel_rfl
theorem vis_13 (N M c d : Int) (B b : Bool) : visRun (extV 14 N M B) rowsS 13 c d b = some (wrapF .i64 (wrapF .i64 (wrapF .i64 (c + 1) + N) + N), mxI (mxI (mxI d 13) M) M, ((b || B) || B)) := by kernel_rfl
theorem vis_14 (N M c d : Int) (B b : Bool) : visRun (extV 15 N M B) rowsS 14 c d b = some (wrapF .i64 (wrapF .i64 (wrapF .i64 (c + 1) + N) + N), mxI (mxI (mxI d 14) M) M, ((b || B) || B)) := by kernel_rfl
theorem vis_step {K : Kind} {t : Nat} : ∀ {lev : Nat}, 1 ≤ lev → lev ≤ 14 → VisP K t (lev + 1 : Nat) (Nv K t) (Mv K t (lev + 1 : Nat)) (Bv K t (lev + 1 : Nat)) → VisP K (t + 1) (lev : Nat) (Nv K (t + 1)) (Mv K (t + 1) (lev : Nat)) (Bv K (t + 1) (lev : Nat))
  | 1, _, _, ih => by
    have h := vis_of_run (K := K) (t := t + 1) (lev := 1) (extV_ok ih) fun c d b => (vis_1 _ _ c d _ b).trans (vis_ends (Int.le_trans (by decide) (Mv_le K t (2 : Nat))))
    cases K <;> exact h
  | 2, _, _, ih => by
    have h := vis_of_run (K := K) (t := t + 1) (lev := 2) (extV_ok ih) fun c d b => (vis_2 _ _ c d _ b).trans (vis_ends (Int.le_trans (by decide) (Mv_le K t (3 : Nat))))
    cases K <;> exact h
  | 3, _, _, ih => by
    have h := vis_of_run (K := K) (t := t + 1) (lev := 3) (extV_ok ih) fun c d b => (vis_3 _ _ c d _ b).trans (vis_ends (Int.le_trans (by decide) (Mv_le K t (4 : Nat))))
    cases K <;> exact h
  | 4, _, _, ih => by
    have h := vis_of_run (K := K) (t := t + 1) (lev := 4) (extV_ok ih) fun c d b => (vis_4 _ _ c d _ b).trans (vis_ends (Int.le_trans (by decide) (Mv_le K t (5 : Nat))))
    cases K <;> exact h
  | 5, _, _, ih => by
    have h := vis_of_run (K := K) (t := t + 1) (lev := 5) (extV_ok ih) fun c d b => (vis_5 _ _ c d _ b).trans (vis_ends (Int.le_trans (by decide) (Mv_le K t (6 : Nat))))
    cases K <;> exact h
  | 6, _, _, ih => by
    have h := vis_of_run (K := K) (t := t + 1) (lev := 6) (extV_ok ih) fun c d b => (vis_6 _ _ c d _ b).trans (vis_ends (Int.le_trans (by decide) (Mv_le K t (7 : Nat))))
    cases K <;> exact h
  | 7, _, _, ih => by
    have h := vis_of_run (K := K) (t := t + 1) (lev := 7) (extV_ok ih) fun c d b => (vis_7 _ _ c d _ b).trans (vis_ends (Int.le_trans (by decide) (Mv_le K t (8 : Nat))))
    cases K <;> exact h
  | 8, _, _, ih => by
    have h := vis_of_run (K := K) (t := t + 1) (lev := 8) (extV_ok ih) fun c d b => (vis_8 _ _ c d _ b).trans (vis_ends (Int.le_trans (by decide) (Mv_le K t (9 : Nat))))
    cases K <;> exact h
  | 9, _, _, ih => by
    have h := vis_of_run (K := K) (t := t + 1) (lev := 9) (extV_ok ih) fun c d b => (vis_9 _ _ c d _ b).trans (vis_ends (Int.le_trans (by decide) (Mv_le K t (10 : Nat))))
    cases K <;> exact h
  | 10, _, _, ih => by
    have h := vis_of_run (K := K) (t := t + 1) (lev := 10) (extV_ok ih) fun c d b => (vis_10 _ _ c d _ b).trans (vis_ends (Int.le_trans (by decide) (Mv_le K t (11 : Nat))))
    cases K <;> exact h
  | 11, _, _, ih => by
    have h := vis_of_run (K := K) (t := t + 1) (lev := 11) (extV_ok ih) fun c d b => (vis_11 _ _ c d _ b).trans (vis_ends (Int.le_trans (by decide) (Mv_le K t (12 : Nat))))
    cases K <;> exact h
  | 12, _, _, ih => by
    have h := vis_of_run (K := K) (t := t + 1) (lev := 12) (extV_ok ih) fun c d b => (vis_12 _ _ c d _ b).trans (vis_ends (Int.le_trans (by decide) (Mv_le K t (13 : Nat))))
    cases K <;> exact h
  | 13, _, _, ih => by
    have h := vis_of_run (K := K) (t := t + 1) (lev := 13) (extV_ok ih) fun c d b => (vis_13 _ _ c d _ b).trans (vis_ends (Int.le_trans (by decide) (Mv_le K t (14 : Nat))))
    cases K <;> exact h
  | 14, _, _, ih => by
    have h := vis_of_run (K := K) (t := t + 1) (lev := 14) (extV_ok ih) fun c d b => (vis_14 _ _ c d _ b).trans (vis_ends (Int.le_trans (by decide) (Mv_le K t (15 : Nat))))
    cases K <;> exact h
  | 0, h, _, _ => by omega
  | n + 15, _, h, _ => by omega
end Go.Proofs.YtpgkdhhlcpgjcaaGreatDoor
