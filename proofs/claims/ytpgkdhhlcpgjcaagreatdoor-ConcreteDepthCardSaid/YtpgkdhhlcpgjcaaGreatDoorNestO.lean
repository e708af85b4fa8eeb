import Derived.Test.YtpgkdhhlcpgjcaaGreatDoorBaseO
import Derived.Test.YtpgkdhhlcpgjcaaGreatDoorFctA
/-
  Lists in each other, however deep: where they lie.
-/
namespace Go.Proofs.YtpgkdhhlcpgjcaaGreatDoor
open Ev Ev.Sh Go.RowKit
set_option maxRecDepth 100000

/-- the cells of a value that has one list case alone -/
abbrev V0 (h : SVal) : List SVal := [bf, bf, bf, bf, .nilSl, .nilSl, .nilSl, h, .nilSl]
abbrev hdV (l : Ev.Loc) : Value := .agg #[.bool false, .bool false, .bool false, .bool false, .slice none 0 0, .slice none 0 0, .slice none 0 0, .slice (some ⟨l.blk, l.base, none⟩) 1 l.cap, .slice none 0 0]
/-- what lies at the innermost list: the rows from its list case on -/
inductive Kind where
  | num
  | str
noncomputable def rows0 : Kind → List Row0
  | .num => [⟨[r 1 1, .nilSl], some 2⟩, ⟨[bf, bf, bf, bf, r 2 1, .nilSl, .nilSl, .nilSl, .nilSl, bf, bf, bf, bf, r 3 1, .nilSl, .nilSl, .nilSl, .nilSl], some 18⟩, ⟨[i 1, i 1], some 2⟩, ⟨[i 1, i 1], some 2⟩]
  | .str => [⟨[r 1 1, .nilSl], some 2⟩, ⟨[bf, bf, bf, bf, .nilSl, .nilSl, .nilSl, .nilSl, r 2 1, bf, bf, bf, bf, .nilSl, .nilSl, .nilSl, .nilSl, r 3 1], some 18⟩,
    ⟨[.nilSl, r 4 1], some 2⟩, ⟨[.nilSl, r 5 1], some 2⟩,
    ⟨[r 6 1, bf, bf, bf, bf, .nilSl, .nilSl, .nilSl, .nilSl, .nilSl, bf, bf, bf, bf, .nilSl, .nilSl, .nilSl, .nilSl, .nilSl], some 19⟩, ⟨[r 7 1, bf, bf, bf, bf, .nilSl, .nilSl, .nilSl, .nilSl, .nilSl, bf, bf, bf, bf, .nilSl, .nilSl, .nilSl, .nilSl, .nilSl], some 19⟩,
    ⟨[bt, r 8 1], some 2⟩, ⟨[bt, r 9 1], some 2⟩, ⟨[u 0, u 255, i 0], some 3⟩, ⟨[u 0, u 255, i 0], some 3⟩]
noncomputable def rowsS : List (Option Row0) := [some ⟨[r 1 1, .nilSl], some 2⟩, some ⟨V0 (r 2 1) ++ V0 (r 3 1), some 18⟩, none, none]
noncomputable def its (K : Kind) : Nat → List (Option Row0)
  | 0 => (rows0 K).map some
  | _ + 1 => rowsS
/-- t + 1 lists in each other, from the place of the outer list's case on -/
def At (K : Kind) : Nat → Ev.Loc → World → Prop
  | 0, l, w => ∃ ρ : Val, ρ 0 = some l ∧ ItemsAt (fun _ => False) ρ (its K 0) w
  | t + 1, l, w => ∃ ρ : Val, ρ 0 = some l ∧ ItemsAt (fun lc => At K t lc w) ρ rowsS w
def Child (K : Kind) (t : Nat) (w : World) (lc : Ev.Loc) : Prop :=
  match t with
  | 0 => False
  | t + 1 => At K t lc w
theorem At.items {K : Kind} {t : Nat} {l : Ev.Loc} {w : World} (h : At K t l w) : ∃ ρ : Val, ρ 0 = some l ∧ ItemsAt (Child K t w) ρ (its K t) w := by
  cases t with
  | zero => exact h
  | succ t => exact h
theorem At.of {K : Kind} {t : Nat} {l : Ev.Loc} {w : World} {ρ : Val} (h0 : ρ 0 = some l) (h : ItemsAt (Child K t w) ρ (its K t) w) : At K t l w := by
  cases t with
  | zero => exact ⟨ρ, h0, h⟩
  | succ t => exact ⟨ρ, h0, h⟩
theorem its_pos (K : Kind) (t : Nat) : 0 < (its K t).length := by
  cases t with
  | zero => cases K <;> simp [its, rows0]
  | succ t => simp [its, rowsS]
theorem At.lt {K : Kind} {t : Nat} {l : Ev.Loc} {w : World} (h : At K t l w) : l.blk < w.heap.size := by
  obtain ⟨ρ, h1, h2⟩ := h.items
  obtain ⟨l', h3, h4⟩ := h2.at_ 0 _ (List.getElem?_eq_getElem (its_pos K t))
  rw [h1] at h3
  cases h3
  exact h4.lt
theorem size_of_same {w w2 : World} {l : Ev.Loc} (h : l.blk < w.heap.size) (hk : w2.heap[l.blk]? = w.heap[l.blk]?) : l.blk < w2.heap.size := by
  rw [Array.getElem?_eq_getElem h] at hk
  exact (Array.getElem?_eq_some_iff.1 hk).1
theorem At.keep {K : Kind} : ∀ {t : Nat} {l : Ev.Loc} {w w2 : World}, At K t l w → (∀ x, x < w.heap.size → w2.heap[x]? = w.heap[x]?) → At K t l w2
  | 0, l, w, w2, h, hk => by
    obtain ⟨ρ, h0, h1⟩ := h
    refine ⟨ρ, h0, fun i x hi => ?_, h1.no⟩
    obtain ⟨lc, h2, h3⟩ := h1.at_ i x hi
    refine ⟨lc, h2, ?_⟩
    cases x with
    | none => exact h3.1.elim
    | some row => exact RowIs.keep h3 (hk _ (RowIs.lt h3))
  | t + 1, l, w, w2, h, hk => by
    obtain ⟨ρ, h0, h1⟩ := h
    refine ⟨ρ, h0, fun i x hi => ?_, h1.no⟩
    obtain ⟨lc, h2, h3⟩ := h1.at_ i x hi
    refine ⟨lc, h2, ?_⟩
    cases x with
    | none => exact ⟨At.keep h3.1 hk, size_of_same h3.2 (hk _ h3.2)⟩
    | some row => exact RowIs.keep h3 (hk _ (RowIs.lt h3))

/-- the family that speaks of t + 1 lists in each other; of none, where there are no such names -/
abbrev famK (K : Kind) (t : Nat) : Fam := ⟨fun _ l w => Child K t w l⟩
theorem famK_hC {K : Kind} {t : Nat} {w : World} : ∀ l, Child K t w l → ∀ w2 : World, (∀ x, x < w.heap.size → w2.heap[x]? = w.heap[x]?) → (famK K t).At 7 l w2 := fun l h w2 hk => by
  cases t with
  | zero => exact h
  | succ t => exact At.keep h hk

/-! The canonical form. -/
def NewAt (K : Kind) (t : Nat) (l : Ev.Loc) (B : Nat) (w : World) : Prop := ∃ fp : Nat → Prop, (∀ x, fp x → B ≤ x ∧ x < w.heap.size) ∧ ∀ w2 : World, (∀ x, fp x → w2.heap[x]? = w.heap[x]?) → At K t l w2
def CanP (K : Kind) (t : Nat) : Prop := ∀ (w : World) (l : Ev.Loc), At K t l w → Calls Tryz.prog 62 #[hdV l] w fun e w' => ∃ l', e = .returned (.tuple #[hdV l', .bool true]) ∧ Stands w w' ∧ w.heap.size ≤ l'.blk ∧ NewAt K t l' w.heap.size w'
def SamP (K : Kind) (t : Nat) : Prop := ∀ (w : World) (l l' : Ev.Loc), At K t l w → At K t l' w → Calls Tryz.prog 64 #[hdV l, hdV l'] w fun e w' => e = .returned (.bool true) ∧ Stands w w'

noncomputable def hdS : SVal → Option Nat
  | .agg [.bool false, .bool false, .bool false, .bool false, .nilSl, .nilSl, .nilSl, .sl k 0 1 (.rest 0), .nilSl] => some k
  | _ => none
theorem hdS_spec {a : SVal} {k : Nat} (h : hdS a = some k) : a = .agg (V0 (r k 1)) := by
  unfold hdS at h
  split at h
  · cases h; rfl
  · cases h
theorem den_hd {ρ : Val} {k : Nat} {v : Value} (h : den ρ (.agg (V0 (r k 1))) = some v) : ∃ l, ρ k = some l ∧ v = hdV l := by
  cases hk : ρ k with
  | none => simp [den, denL, hk] at h
  | some l =>
    simp only [den, denL, hk, Option.map_some, Option.bind_some, Option.some.injEq] at h
    exact ⟨l, rfl, h.symm⟩
theorem hd_den {ρ : Val} {k : Nat} {l : Ev.Loc} (h : ρ k = some l) : den ρ (.agg (V0 (r k 1))) = some (hdV l) := by
  simp only [den, denL, h, Option.map_some, Option.bind_some]
  rfl
noncomputable def canX (args : List SVal) (st : St) : M (SVal × St) :=
  match args with
  | [a] => bnd (hdS a) fun k => bnd (opqB st k) fun _ => bnd (st.fresh (.opq 7)) fun p => some (.tup [.agg (V0 (r p.1 1)), bt], p.2)
  | _ => none
noncomputable def samX (args : List SVal) (st : St) : M (SVal × St) :=
  match args with
  | [a, b] => bnd (hdS a) fun k => bnd (opqB st k) fun _ => bnd (hdS b) fun k => bnd (opqB st k) fun _ => some (bt, st)
  | _ => none
theorem body_can : Tryz.f62.body.isSome = true := by kernel_rfl
theorem body_sam : Tryz.f64.body.isSome = true := by kernel_rfl
theorem opq_at {K : Kind} {t : Nat} {ρ : Val} {st : St} {w : World} {k : Nat} {l : Ev.Loc} (hr : @Rep (famK K (t + 1)) ρ st.look w) (h : opqB st k = some ()) (hl : ρ k = some l) : At K t l w := by
  letI : Fam := famK K (t + 1)
  obtain ⟨q, h1⟩ := opqB_spec h
  obtain ⟨l', h2, fp, h3, h4⟩ := hr.opq k q h1
  rw [hl] at h2
  cases h2
  exact h4 w fun _ _ => rfl
theorem canX_ok {K : Kind} {t : Nat} (ih : CanP K t) : @CallAt (famK K (t + 1)) Tryz.prog 62 canX := by
  letI : Fam := famK K (t + 1)
  intro args st s st' h
  unfold canX at h
  split at h
  · rename_i a
    rw [bnd_some] at h
    obtain ⟨k, h1, h⟩ := h
    rw [bnd_some] at h
    obtain ⟨_, h2, h⟩ := h
    rw [bnd_some] at h
    obtain ⟨⟨n, st1⟩, h3, h4⟩ := h
    cases h4
    have e := hdS_spec h1
    subst e
    refine ⟨fresh_sta h3, fun {ρ w} hr hwf hfree vs hvs => ?_⟩
    obtain ⟨v, xs, h5, h6, rfl⟩ := denL_cons.1 hvs
    rw [denL_nil] at h6
    subst h6
    obtain ⟨l, h7, rfl⟩ := den_hd h5
    have hA := opq_at hr h2 h7
    obtain ⟨hf1, hf2⟩ := env_ok.funcs 62 Tryz.f62 (by kernel_rfl)
    refine call1_of_calls hf1 hf2 body_can ((ih w l hA).mono ?_)
    rintro e w' ⟨l', rfl, hS, hge, fp, hfp, hat⟩
    obtain ⟨e1, e2, _⟩ := fresh_spec h3
    have hfree : Free ρ st.next st1.next := hfree
    have hlt : l'.blk < w'.heap.size := (hat w' fun _ _ => rfl).lt
    obtain ⟨k1, k2⟩ := fresh_opq h3 hr (hfree n (by omega) (by omega)) hS l' hge hlt ⟨fp, hfp, fun w2 h => hat w2 h⟩
    refine ⟨_, rfl, _, ?_, k1, k2⟩
    have := hd_den (ρ := bind1 ρ n l') (k := n) (bind1_self _ _ _)
    show den _ (.tup [.agg (V0 (r n 1)), bt]) = _
    simp only [den, denL, bind1_self, Option.map_some, Option.bind_some]
    rfl
  · cases h
theorem samX_ok {K : Kind} {t : Nat} (ih : SamP K t) : @CallAt (famK K (t + 1)) Tryz.prog 64 samX := by
  letI : Fam := famK K (t + 1)
  intro args st s st' h
  unfold samX at h
  split at h
  · rename_i a b
    rw [bnd_some] at h
    obtain ⟨k, h1, h⟩ := h
    rw [bnd_some] at h
    obtain ⟨_, h2, h⟩ := h
    rw [bnd_some] at h
    obtain ⟨k', h3, h⟩ := h
    rw [bnd_some] at h
    obtain ⟨_, h4, h⟩ := h
    cases h
    have e1 := hdS_spec h1
    have e2 := hdS_spec h3
    subst e1 e2
    refine ⟨Sta.refl _, fun {ρ w} hr hwf hfree vs hvs => ?_⟩
    obtain ⟨v, xs, h5, h6, rfl⟩ := denL_cons.1 hvs
    obtain ⟨v', xs, h7, h8, rfl⟩ := denL_cons.1 h6
    rw [denL_nil] at h8
    subst h8
    obtain ⟨l, h9, rfl⟩ := den_hd h5
    obtain ⟨l', h10, rfl⟩ := den_hd h7
    obtain ⟨hf1, hf2⟩ := env_ok.funcs 64 Tryz.f64 (by kernel_rfl)
    refine call1_of_calls hf1 hf2 body_sam ((ih w l l' (opq_at hr h2 h9) (opq_at hr h4 h10)).mono ?_)
    rintro e w' ⟨rfl, hS⟩
    exact ⟨_, rfl, ρ, rfl, stands_rep hr hS, stands_step _ _ _ hS⟩
  · cases h
noncomputable def extN (f : FuncId) : Option (List SVal → St → M (SVal × St)) := Bool.rec (Bool.rec (base1 f) (some samX) (Nat.beq f 64)) (some canX) (Nat.beq f 62)
theorem extN_ok {K : Kind} {t : Nat} (ih : CanP K t) (ih2 : SamP K t) : @ExtOk (famK K (t + 1)) Tryz.prog extN := fun f x h => by
  letI : Fam := famK K (t + 1)
  have h : @Bool.rec (fun _ => Option (List SVal → St → M (SVal × St))) (@Bool.rec (fun _ => Option (List SVal → St → M (SVal × St))) (base1 f) (some samX) (Nat.beq f 64)) (some canX) (Nat.beq f 62) = some x := h
  cases h1 : Nat.beq f 62 with
  | true => rw [h1] at h; cases h; rw [beq_true h1]; exact canX_ok ih
  | false =>
    cases h2 : Nat.beq f 64 with
    | true => rw [h1, h2] at h; cases h; rw [beq_true h2]; exact samX_ok ih2
    | false => rw [h1, h2] at h; exact base1_ok f x h

/-- the run of canonical, of its items; what it hands back -/
noncomputable def canRun (ext : FuncId → Option (List SVal → St → M (SVal × St))) (items : List (Option Row0)) (out : List (Nat × Option Row1)) : Option SVal :=
  bnd (pstO items) fun st => bnd (callFn envT (run envT ext 100000) Tryz.f62 [.agg (V0 (r 0 1))] st) fun p => bnd (outItems (out.map Prod.fst) p.2 out) fun _ => some p.1
theorem can_of_run {K : Kind} {t n0 : Nat} {ext : FuncId → Option (List SVal → St → M (SVal × St))} (hext : @ExtOk (famK K t) Tryz.prog ext) {out : List (Nat × Option Row1)} (hrun : canRun ext (its K t) out = some (.tup [.agg (V0 (r n0 1)), bt]))
    (hlo : ∀ p ∈ out, (its K t).length ≤ p.1) {r0 : Row1} (h0 : out[0]? = some (n0, some r0)) (hout : (out.map fun p => p.2.map fun r => (⟨r.cells, r.slack⟩ : Row0)) = its K t) : CanP K t := by
  letI : Fam := famK K t
  intro w l hA
  obtain ⟨ρ, hρ, hI⟩ := hA.items
  unfold canRun at hrun
  rw [bnd_some] at hrun
  obtain ⟨st, g1, hrun⟩ := hrun
  rw [bnd_some] at hrun
  obtain ⟨⟨s, st'⟩, g2, hrun⟩ := hrun
  rw [bnd_some] at hrun
  obtain ⟨_, g3, g4⟩ := hrun
  have g4 : some s = some (.tup [.agg (V0 (r n0 1)), bt]) := g4
  cases g4
  obtain ⟨q1, q2, _, q3, q4⟩ := pstO_ok g1
  obtain ⟨hrep, hno⟩ := pstO_rep g1 hI famK_hC
  have hfn : envT.funcs.get 62 = some Tryz.f62 := by kernel_rfl
  obtain ⟨k1, k2⟩ := callFn_calls env_ok (run_ok env_ok hext 100000).1 hfn g2
  have hfree : Free ρ st.next st'.next := fun k hk _ => hI.no k (by omega)
  have hd : denL ρ [.agg (V0 (r 0 1))] = some [hdV l] := denL_cons.2 ⟨_, [], hd_den hρ, rfl, rfl⟩
  refine (k2 hrep q3 hfree hd).mono ?_
  rintro e w' ⟨v, rfl, ρ1, hv, hr1, hs1⟩
  have hH : ∀ k o, st.look k = some o → own o = false ∧ k < st.next := fun k o hk => ⟨hno k o hk, by
    obtain ⟨x, hx, _⟩ := q4 k o hk
    have := (List.getElem?_eq_some_iff.1 hx).1
    omega⟩
  obtain ⟨fp, f1, f2⟩ := pack_items hr1 hs1 hH (fun p hp => by rw [q1]; exact hlo p hp) g3
  rw [hout] at f2
  have hn0 : ∃ l', ρ1 n0 = some l' ∧ v = .tuple #[hdV l', .bool true] := by
    have hv2 : (denL ρ1 [.agg (V0 (r n0 1)), bt]).map (fun x => Value.tuple x.toArray) = some v := hv
    rw [Option.map_eq_some_iff] at hv2
    obtain ⟨xs, hv3, rfl⟩ := hv2
    obtain ⟨a, ys, a1, a2, rfl⟩ := denL_cons.1 hv3
    obtain ⟨b, zs, b1, b2, rfl⟩ := denL_cons.1 a2
    rw [denL_nil] at b2
    subst b2
    cases b1
    obtain ⟨l', c1, rfl⟩ := den_hd a1
    exact ⟨l', c1, rfl⟩
  obtain ⟨l', hl', rfl⟩ := hn0
  have hname : (((out.map Prod.fst)[0]?).bind ρ1) = some l' := by rw [List.getElem?_map, h0]; exact hl'
  have hat : ∀ w2 : World, (∀ x, fp x → w2.heap[x]? = w'.heap[x]?) → At K t l' w2 := fun w2 h2 => by
    refine At.of (ρ := fun k => ((out.map Prod.fst)[k]?).bind ρ1) hname ?_
    obtain ⟨m1, m2⟩ := f2 w2 h2
    refine ⟨fun i x hi => ?_, m2⟩
    obtain ⟨lc, m3, m4⟩ := m1 i x hi
    refine ⟨lc, m3, ?_⟩
    cases x with
    | some row => exact m4
    | none =>
      obtain ⟨⟨_, m5⟩, m6⟩ := m4
      exact ⟨m5, m6⟩
  refine ⟨l', rfl, stands_of_step hs1 hno, ?_, fp, f1, hat⟩
  obtain ⟨lc, m1, m2, _⟩ := pack_row hr1 ((outItems_ok g3 _ (List.mem_of_getElem? h0)).1 r0 rfl)
  have m1 : ρ1 n0 = some lc := m1
  rw [hl'] at m1
  cases m1
  exact (hs1.owns _ m2).elim (fun ⟨k, o, _, a, b, _⟩ => by rw [hno k o a] at b; cases b) id
end Go.Proofs.YtpgkdhhlcpgjcaaGreatDoor
/-
  Lists in each other, however deep: the canonical form and sameness, by induction on the depth.
-/
namespace Go.Proofs.YtpgkdhhlcpgjcaaGreatDoor
open Ev Ev.Sh Go.RowKit
set_option maxRecDepth 100000

noncomputable def outS : List (Nat × Option Row1) := [(101, some ⟨[r 1 1, .nilSl], 99, some 2⟩), (93, some ⟨V0 (r 2 1) ++ V0 (r 3 1), 41, some 18⟩), (74, none), (76, none)]
theorem canRun_S : canRun extN rowsS outS = some (.tup [.agg (V0 (r 101 1)), bt]) := by kernel_rfl
theorem can_step {K : Kind} {t : Nat} (ih : CanP K t) (ih2 : SamP K t) : CanP K (t + 1) :=
  can_of_run (K := K) (t := t + 1) (extN_ok ih ih2) canRun_S (by intro p hp; simp [outS] at hp; rcases hp with rfl | rfl | rfl | rfl <;> simp [its, rowsS]) rfl rfl

/-! Two of them. -/
noncomputable def shiftS (n : Nat) : SVal → SVal
  | .sl k off len cap => .sl (Nat.add k n) off len cap
  | .ptr k off => .ptr (Nat.add k n) off
  | s => s
noncomputable def plain : SVal → Bool
  | .sl _ _ _ _ => true
  | .ptr _ _ => true
  | .bool _ => true
  | .int _ _ => true
  | .str _ => true
  | .nilSl => true
  | .nilPtr => true
  | _ => false
noncomputable def shiftR (n : Nat) (x : Option Row0) : Option Row0 := x.map fun row => ⟨row.cells.map (shiftS n), row.slack⟩
theorem shiftS_den {ρ σ : Val} {n : Nat} (h : ∀ k l, ρ k = some l → σ (k + n) = some l) {s : SVal} {v : Value} (hp : plain s = true) (hd : den ρ s = some v) : den σ (shiftS n s) = some v := by
  cases s with
  | sl k off len cap =>
    cases cap with
    | ex c =>
      simp only [den, Option.map_eq_some_iff] at hd
      obtain ⟨l, h1, h2⟩ := hd
      simp only [shiftS, den, Option.map_eq_some_iff]
      exact ⟨l, h k l h1, h2⟩
    | rest o =>
      simp only [den, Option.map_eq_some_iff] at hd
      obtain ⟨l, h1, h2⟩ := hd
      simp only [shiftS, den, Option.map_eq_some_iff]
      exact ⟨l, h k l h1, h2⟩
  | ptr k off =>
    simp only [den, Option.map_eq_some_iff] at hd
    obtain ⟨l, h1, h2⟩ := hd
    simp only [shiftS, den, Option.map_eq_some_iff]
    exact ⟨l, h k l h1, h2⟩
  | bool b => exact hd
  | int k m => exact hd
  | str l => exact hd
  | nilSl => exact hd
  | nilPtr => exact hd
  | nilMap => cases hp
  | map k => cases hp
  | func f x y => cases hp
  | nilFn => cases hp
  | nilIface => cases hp
  | agg l => cases hp
  | tup l => cases hp
noncomputable def plainI (x : Option Row0) : Bool := match x with
  | some row => row.cells.all plain
  | none => true
theorem its_plain (K : Kind) (t : Nat) : (its K t).all plainI = true := by
  cases t with
  | zero => cases K <;> kernel_rfl
  | succ t => kernel_rfl
theorem two_items {C : Ev.Loc → Prop} {ρ σ : Val} {items : List (Option Row0)} {w : World} (h : ItemsAt C ρ items w) (h' : ItemsAt C σ items w) (hp : items.all plainI = true) :
    ItemsAt C (fun k => if k < items.length then ρ k else σ (k - items.length)) (items ++ items.map (shiftR items.length)) w := by
  have left : Le ρ (fun k => if k < items.length then ρ k else σ (k - items.length)) := fun k l hk => by
    show (if k < items.length then ρ k else _) = some l
    rw [if_pos]
    · exact hk
    · rcases Nat.lt_or_ge k items.length with hlt | hge
      · exact hlt
      · rw [h.no k hge] at hk; cases hk
  refine ⟨fun i x hi => ?_, fun i hi => ?_⟩
  · rcases Nat.lt_or_ge i items.length with hlt | hge
    · rw [List.getElem?_append_left hlt] at hi
      obtain ⟨l, h1, h2⟩ := h.at_ i x hi
      refine ⟨l, left _ _ h1, ?_⟩
      cases x with
      | none => exact h2
      | some row =>
        obtain ⟨cs, e, fz, h3, h4, h5⟩ := h2
        exact ⟨cs, e, fz, h3, fun y s hy => by
          obtain ⟨v, h6, h7⟩ := h4 y s hy
          exact ⟨v, den_le left _ _ h6, h7⟩, h5⟩
    · rw [List.getElem?_append_right hge, List.getElem?_map, Option.map_eq_some_iff] at hi
      obtain ⟨y, hi, rfl⟩ := hi
      obtain ⟨l, h1, h2⟩ := h'.at_ _ y hi
      have hpl := List.all_eq_true.1 hp y (List.mem_of_getElem? hi)
      refine ⟨l, ?_, ?_⟩
      · show (if i < items.length then ρ i else _) = some l
        rw [if_neg (by omega)]
        exact h1
      · cases y with
        | none => exact h2
        | some row =>
          obtain ⟨cs, e, fz, h3, h4, h5⟩ := h2
          refine ⟨cs, e, fz, h3, fun z s hz => ?_, fun sz hsz => ?_⟩
          · have hz2 : (row.cells.map (shiftS items.length))[z]? = some s := hz
            rw [List.getElem?_map, Option.map_eq_some_iff] at hz2
            obtain ⟨s0, hz3, rfl⟩ := hz2
            obtain ⟨v, h6, h7⟩ := h4 z s0 hz3
            refine ⟨v, shiftS_den (fun k l hk => ?_) (List.all_eq_true.1 hpl s0 (List.mem_of_getElem? hz3)) h6, h7⟩
            show (if k + items.length < items.length then _ else σ (k + items.length - items.length)) = some l
            rw [if_neg (by omega), Nat.add_sub_cancel]
            exact hk
          · have := h5 sz hsz
            show (row.cells.map (shiftS items.length)).length ≤ _
            rw [List.length_map]
            exact this
  · simp at hi
    show (if i < items.length then ρ i else σ (i - items.length)) = none
    rw [if_neg (by omega)]
    exact h'.no _ (by omega)
noncomputable def samRun (ext : FuncId → Option (List SVal → St → M (SVal × St))) (items : List (Option Row0)) : Option SVal :=
  bnd (pstO (items ++ items.map (shiftR items.length))) fun st => bnd (callFn envT (run envT ext 100000) Tryz.f64 [.agg (V0 (r 0 1)), .agg (V0 (r items.length 1))] st) fun p => some p.1
theorem sam_of_run {K : Kind} {t : Nat} {ext : FuncId → Option (List SVal → St → M (SVal × St))} (hext : @ExtOk (famK K t) Tryz.prog ext) (hrun : samRun ext (its K t) = some bt) : SamP K t := by
  letI : Fam := famK K t
  intro w l l' hA hA'
  obtain ⟨ρ, hρ, hI⟩ := hA.items
  obtain ⟨σ, hσ, hI'⟩ := hA'.items
  have h2 := two_items hI hI' (its_plain K t)
  unfold samRun at hrun
  rw [bnd_some] at hrun
  obtain ⟨st, g1, hrun⟩ := hrun
  rw [bnd_some] at hrun
  obtain ⟨⟨s, st'⟩, g2, g4⟩ := hrun
  have g4 : some s = some bt := g4
  cases g4
  obtain ⟨q1, q2, _, q3, q4⟩ := pstO_ok g1
  obtain ⟨hrep, hno⟩ := pstO_rep g1 h2 famK_hC
  have hfn : envT.funcs.get 64 = some Tryz.f64 := by kernel_rfl
  obtain ⟨k1, k2⟩ := callFn_calls env_ok (run_ok env_ok hext 100000).1 hfn g2
  have hfree : Free (fun k => if k < (its K t).length then ρ k else σ (k - (its K t).length)) st.next st'.next := fun k hk _ => h2.no k (by omega)
  have hd : denL (fun k => if k < (its K t).length then ρ k else σ (k - (its K t).length)) [.agg (V0 (r 0 1)), .agg (V0 (r (its K t).length 1))] = some [hdV l, hdV l'] := by
    refine denL_cons.2 ⟨_, _, hd_den ?_, denL_cons.2 ⟨_, [], hd_den ?_, rfl, rfl⟩, rfl⟩
    · show (if 0 < (its K t).length then ρ 0 else _) = some l
      rw [if_pos (its_pos K t)]
      exact hρ
    · show (if (its K t).length < (its K t).length then _ else σ ((its K t).length - (its K t).length)) = some l'
      rw [if_neg (by omega), Nat.sub_self]
      exact hσ
  refine (k2 hrep q3 hfree hd).mono ?_
  rintro e w' ⟨v, rfl, ρ1, hv, hr1, hs1⟩
  have hv : some (Value.bool true) = some v := hv
  cases hv
  exact ⟨rfl, stands_of_step hs1 hno⟩
theorem samRun_S : samRun extN rowsS = some bt := by kernel_rfl
theorem sam_step {K : Kind} {t : Nat} (ih : CanP K t) (ih2 : SamP K t) : SamP K (t + 1) := sam_of_run (K := K) (t := t + 1) (extN_ok ih ih2) samRun_S
end Go.Proofs.YtpgkdhhlcpgjcaaGreatDoor
