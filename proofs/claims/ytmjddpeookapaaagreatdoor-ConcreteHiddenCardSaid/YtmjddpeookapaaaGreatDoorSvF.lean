/- For ConcreteHidden: a reckoner of what code comes to. -/
import Derived.Test.YtmjddpeookapaaaGreatDoorSvE
set_option linter.unusedVariables false
set_option linter.unusedSimpArgs false
set_option linter.unusedSectionVars false
namespace Sv
open Go Go.RowKit
noncomputable def xa : Nat → List SVal → Option (List SVal)
 | 0, _ => some []
 | _ + 1, [] => none
 | n + 1, a :: l => match xa n l with
  | some r => some (a :: r)
  | none => none
theorem qh : ∀ {n : Nat} {l r : List SVal}, xa n l = some r → r = l.take n ∧ n ≤ l.length
 | 0, l, r, h => by cases h; exact ⟨rfl, Nat.zero_le _⟩
 | n + 1, [], r, h => by cases h
 | n + 1, a :: l, r, h => by
  unfold xa at h
  split at h
  ·rename_i r' h'
   cases h
   obtain ⟨h1, h2⟩ := qh h'
   exact ⟨by rw [h1]; rfl, by simp; omega⟩
  ·cases h
noncomputable def yt : List SVal → List SVal → Option (List SVal)
 | l, [] => some l
 | [], _ :: _ => none
 | _ :: l, b :: v => match yt l v with
  | some r => some (b :: r)
  | none => none
theorem layO_ok : ∀ {l v r : List SVal}, yt l v = some r → v.length ≤ l.length ∧ r = v ++ l.drop v.length
 | l, [], r, h => by
  have h : some l = some r := by cases l <;> exact h
  cases h; simp
 | [], b :: v, r, h => by cases h
 | a :: l, b :: v, r, h => by
  unfold yt at h
  split at h
  ·rename_i r' h'
   cases h
   obtain ⟨h1, h2⟩ := layO_ok h'
   subst h2
   simp at h1 ⊢
   exact h1
  ·cases h
noncomputable def ij : List SVal → Nat → List SVal → Option (List SVal)
 | l, 0, v => yt l v
 | [], _ + 1, _ => none
 | a :: l, n + 1, v => match ij l n v with
  | some r => some (a :: r)
  | none => none
theorem xU : ∀ {l : List SVal} {n : Nat} {v r : List SVal}, ij l n v = some r → n + v.length ≤ l.length ∧ r = l.take n ++ (v ++ l.drop (n + v.length))
 | l, 0, v, r, h => by
  have h : yt l v = some r := by cases l <;> exact h
  obtain ⟨h1, h2⟩ := layO_ok h
  subst h2
  exact ⟨by omega, by simp⟩
 | [], n + 1, v, r, h => by cases h
 | a :: l, n + 1, v, r, h => by
  unfold ij at h
  split at h
  ·rename_i r' h'
   cases h
   obtain ⟨h1, h2⟩ := xU h'
   subst h2
   simp
   refine ⟨by omega, ?_⟩
   rw [show n + 1 + v.length = (n + v.length) + 1 from by omega, List.drop_succ_cons]
  ·cases h
theorem lL {l : List SVal} {n : Nat} {v r : List SVal} (h : ij l n v = some r) : n + v.length ≤ l.length ∧ r = over l n v := by
 obtain ⟨h1, h2⟩ := xU h
 exact ⟨h1, by rw [mA l n v h1, h2]⟩
noncomputable def appO : List SVal → List SVal → Option (List SVal)
 | [], r => some r
 | a :: l, r => match appO l r with
  | some x => some (a :: x)
  | none => none
theorem wC : ∀ {l r x : List SVal}, appO l r = some x → x = l ++ r
 | [], r, x, h => by cases h; rfl
 | a :: l, r, x, h => by
  unfold appO at h
  split at h
  ·rename_i y h'
   cases h
   rw [wC h']; rfl
  ·cases h
section
variable {α : Type}
noncomputable def aputO (k : Nat) (o : α) : List (Nat × α) → Option (List (Nat × α))
 | [] => some [(k, o)]
 | p :: r => match Nat.beq p.1 k with
  | true => some ((k, o) :: r)
  | false => match aputO k o r with
   | some x => some (p :: x)
   | none => none
theorem zw {k : Nat} {o : α} : ∀ {l r : List (Nat × α)}, aputO k o l = some r → r = fY l k o
 | [], r, h => by cases h; rfl
 | p :: l, r, h => by
  unfold aputO at h
  split at h
  ·rename_i hb
   cases h
   show _ = @Bool.rec (fun _ => List (Nat × α)) _ _ (Nat.beq p.1 k)
   rw [hb]
  ·rename_i hb
   split at h
   ·rename_i x hx
    cases h
    rw [zw hx]
    show _ = @Bool.rec (fun _ => List (Nat × α)) _ _ (Nat.beq p.1 k)
    rw [hb]
    rfl
   ·cases h
end
def got {α : Type} (x : Option α) (K : α → Prop) : Prop := match x with
 | some a => K a
 | none => False
theorem aE {α : Type} {x : Option α} {K : α → Prop} (h : got x K) : ∃ a, x = some a ∧ K a := by
 cases x with
 | none => exact h.elim
 | some a => exact ⟨a, rfl, h⟩
def yes (b : Bool) (K : Prop) : Prop := match b with
 | true => K
 | false => False
theorem bG {b : Bool} {K : Prop} (h : yes b K) : b = true ∧ K := by
 cases b with
 | true => exact ⟨rfl, h⟩
 | false => exact h.elim
noncomputable def way (b : Bool) (p q : Prop) : Prop := @Bool.rec (fun _ => Prop) q p b
theorem brk {b : Bool} {p q : Prop} (h1 : b = true → p) (h2 : b = false → q) : @Bool.rec (fun _ => Prop) q p b := by
 cases b with
 | true => exact h1 rfl
 | false => exact h2 rfl
theorem zT {b : Bool} {p q : Prop} (h : way b p q) : (b = true ∧ p) ∨ (b = false ∧ q) := by
 cases b with
 | true => exact .inl ⟨rfl, h⟩
 | false => exact .inr ⟨rfl, h⟩
def asB (v : SVal) (K : Bool → Prop) : Prop := match v with
 | .bool b => K b
 | _ => False
theorem asB_ok {v : SVal} {K : Bool → Prop} (h : asB v K) : ∃ b, v = .bool b ∧ K b := by
 cases v <;> first | exact ⟨_, rfl, h⟩ | exact h.elim
def asI (v : SVal) (K : IntKind → Int → Prop) : Prop := match v with
 | .int k n => K k n
 | _ => False
theorem gC {v : SVal} {K : IntKind → Int → Prop} (h : asI v K) : ∃ k n, v = .int k n ∧ K k n := by
 cases v <;> first | exact ⟨_, _, rfl, h⟩ | exact h.elim
def iW (v : SVal) (K : List SVal → Prop) : Prop := match v with
 | .agg l => K l
 | v => K [v]
theorem ey {v : SVal} {K : List SVal → Prop} (h : iW v K) : K (bD v) := by
 cases v <;> exact h
noncomputable def rh (E : Env) (t : TypeId) (l : List SVal) : Option SVal := match aggT E t with
 | some false => match l with
  | s :: _ => some s
  | [] => none
 | some true => match cj E t with
  | some n => match xa n l with
   | some r => some (.agg r)
   | none => none
  | none => none
 | none => none
theorem re {E : Env} {t : TypeId} {l : List SVal} {s : SVal} (h : rh E t l = some s) : oP E t l = some s := by
 unfold rh at h
 unfold oP
 split at h
 ·rename_i h1
  rw [h1]
  split at h
  ·cases h; rfl
  ·cases h
 ·rename_i h1
  rw [h1]
  split at h
  ·rename_i n h2
   split at h
   ·rename_i r h3
    obtain ⟨h4, h5⟩ := qh h3
    cases h
    rw [h2, h4]
    show whn (Nat.ble n l.length) _ = _
    rw [show Nat.ble n l.length = true from Nat.ble_eq_true_of_le h5]
    rfl
   ·cases h
  ·cases h
 ·cases h
structure RowR (rows : List (List SVal)) (i : Nat) (K : List SVal → Prop) : Prop where
 out : ∃ row, rows[i]? = some row ∧ K row
structure WrR (rows : List (List SVal)) (i off : Nat) (v : List SVal) (K : List (List SVal) → Prop) : Prop where
 out : ∃ row r, rows[i]? = some row ∧ ij row off v = some r ∧ K (rows.set i r)
theorem bT {α : Type} {f : α → List SVal} {l : List α} {i off : Nat} {v : List SVal} {K : List (List SVal) → Prop} (x y : α) (h : l[i]? = some x) (hr : ij (f x) off v = some (f y)) (k : K ((l.set i y).map f)) : WrR (l.map f) i off v K :=
 ⟨f x, f y, by rw [List.getElem?_map, h]; rfl, hr, by rw [← List.map_set]; exact k⟩
structure AsR (rows : List (List SVal)) (K : List (List SVal) → Prop) : Prop where
 out : K rows
theorem zt {rows : List (List SVal)} {K : List (List SVal) → Prop} (k : K rows) : AsR rows K := ⟨k⟩
theorem as_go {rows : List (List SVal)} {K : List (List SVal) → Prop} (rows' : List (List SVal)) (h : rows = rows') (k : K rows') : AsR rows K := by
 subst h; exact ⟨k⟩
theorem hM {α : Type} {f : α → List SVal} {l r : List α} {K : List (List SVal) → Prop} (k : K ((l ++ r).map f)) : AsR (l.map f ++ r.map f) K := ⟨by rw [← List.map_append]; exact k⟩
theorem aH {α : Type} {f : α → List SVal} {l : List α} {row : List SVal} {K : List (List SVal) → Prop} (x : α) (h : f x = row) (k : K ((l ++ [x]).map f)) : AsR (l.map f ++ [row]) K := ⟨by
 rw [List.map_append] at k
 subst h
 exact k⟩
theorem wB {α : Type} (f : α → List SVal) {row : List SVal} {K : List (List SVal) → Prop} (x : α) (h : f x = row) (k : K ([x].map f)) : AsR [row] K := ⟨by
 subst h
 exact k⟩
theorem as_rep {α : Type} (f : α → List SVal) {n : Nat} {row : List SVal} {K : List (List SVal) → Prop} (x : α) (h : f x = row) (k : K ((List.replicate n x).map f)) : AsR (List.replicate n row) K := ⟨by
 subst h
 rw [List.map_replicate] at k
 exact k⟩
theorem as_cut {α : Type} {f : α → List SVal} {l : List α} {a b : Nat} {K : List (List SVal) → Prop} (k : K (((l.take a).drop b).map f)) : AsR (((l.map f).take a).drop b) K := ⟨by rw [List.map_drop, List.map_take] at k; exact k⟩
theorem as_take {α : Type} {f : α → List SVal} {l : List α} {a : Nat} {K : List (List SVal) → Prop} (k : K ((l.take a).map f)) : AsR ((l.map f).take a) K := ⟨by rw [List.map_take] at k; exact k⟩
theorem lens1 {row : List SVal} {n : Nat} (h : row.length = n) : ∀ r ∈ [row], r.length = n := fun r hr => by
 rw [List.mem_singleton] at hr
 rw [hr]; exact h
structure LenR {α : Type} (l : List α) (K : Nat → Prop) : Prop where
 out : K l.length
theorem len_go {α β : Type} {f : α → β} {l : List α} {K : Nat → Prop} (k : K l.length) : LenR (l.map f) K := ⟨by rw [List.length_map]; exact k⟩
theorem fj {α : Type} {l : List α} {K : Nat → Prop} (k : K l.length) : LenR l K := ⟨k⟩
theorem len_rep {α β : Type} {f : α → β} {n : Nat} {x : α} {K : Nat → Prop} (k : K n) : LenR ((List.replicate n x).map f) K := ⟨by rw [List.length_map, List.length_replicate]; exact k⟩
theorem len_set {α β : Type} {f : α → β} {l : List α} {i : Nat} {x : α} {K : Nat → Prop} (k : K l.length) : LenR ((l.set i x).map f) K := ⟨by rw [List.length_map, List.length_set]; exact k⟩
def readK (st : St) (p : SVal) (K : List SVal → Prop) : Prop := match p with
 | .ptr k off => match st.look k with
  | some (.cells l) => K (l.drop off)
  | some (.still l) => K (l.drop off)
  | _ => False
 | .ec k s i off => match st.look k with
  | some (.row _ rows s' _) => yes (Nat.beq s' s) (RowR rows i fun row => K (row.drop off))
  | _ => False
 | .bA row off => K (row.drop off)
 | _ => False
theorem xN {st : St} {p : SVal} {K : List SVal → Prop} (h : readK st p K) : ∃ l, iZ st p l ∧ K l := by
 unfold readK at h
 split at h
 ·split at h
  ·rename_i h1
   exact ⟨_, .box h1, h⟩
  ·rename_i h1
   exact ⟨_, .still h1, h⟩
  ·exact h.elim
 ·split at h
  ·rename_i h1
   obtain ⟨h2, ⟨row, h3, h4⟩⟩ := bG h
   have := Nat.eq_of_beq_eq_true h2
   subst this
   exact ⟨_, .row h1 h3, h4⟩
  ·exact h.elim
 ·exact ⟨_, .elem, h⟩
 ·exact h.elim
noncomputable def fE (st : St) (k : Nat) (o : aV) (K : St → Prop) : Prop := match st with
 | ⟨heap, next, mark, log, ban⟩ => match aputO k o heap with
  | some h' => match Nat.ble (Nat.succ k) mark with
   | true => K ⟨h', next, mark, k :: log, ban⟩
   | false => K ⟨h', next, mark, log, ban⟩
  | none => False
theorem cM {st : St} {k : Nat} {o : aV} {K : St → Prop} (h : fE st k o K) : K (st.put k o) := by
 obtain ⟨heap, next, mark, log, ban⟩ := st
 unfold fE at h
 simp only [] at h
 split at h
 ·rename_i h' he
  have := zw he
  subst this
  split at h
  ·rename_i hb
   have : St.put ⟨heap, next, mark, log, ban⟩ k o = ⟨fY heap k o, next, mark, k :: log, ban⟩ := by
    show St.mk _ _ _ (@Bool.rec (fun _ => List Nat) _ _ (Nat.ble (Nat.succ k) mark)) _ = _
    rw [hb]
   rw [this]; exact h
  ·rename_i hb
   have : St.put ⟨heap, next, mark, log, ban⟩ k o = ⟨fY heap k o, next, mark, log, ban⟩ := by
    show St.mk _ _ _ (@Bool.rec (fun _ => List Nat) _ _ (Nat.ble (Nat.succ k) mark)) _ = _
    rw [hb]
   rw [this]; exact h
 ·exact h.elim
noncomputable def gX (st : St) (o : aV) (K : Nat → St → Prop) : Prop := match st with
 | ⟨heap, next, mark, log, ban⟩ => K next ⟨(next, o) :: heap, next + 1, mark, log, ban⟩
theorem dU {st : St} {o : aV} {K : Nat → St → Prop} (h : gX st o K) : K st.next (st.fresh o) := by
 cases st; exact h
noncomputable def zP (st : St) (p : SVal) (v : List SVal) (K : St → Prop) : Prop := match p with
 | .ptr k off => match st.look k with
  | some (.cells l) => match ij l off v with
   | some r => fE st k (.cells r) K
   | none => False
  | _ => False
 | .ec k s i off => match st.look k with
  | some (.row m rows s' false) => yes (Nat.beq s' s) (WrR rows i off v fun rows' => fE st k (.row m rows' s false) K)
  | _ => False
 | _ => False
theorem writeK_ok {st : St} {p : SVal} {v : List SVal} {K : St → Prop} (h : zP st p v K) : ∃ st', Put st p v st' ∧ K st' := by
 unfold zP at h
 split at h
 ·split at h
  ·rename_i h1
   split at h
   ·rename_i r h2
    obtain ⟨h3, h4⟩ := lL h2
    subst h4
    exact ⟨_, .box h1 h3, cM h⟩
   ·exact h.elim
  ·exact h.elim
 ·split at h
  ·rename_i h1
   obtain ⟨h2, ⟨row, r, h3, h4, h5⟩⟩ := bG h
   have := Nat.eq_of_beq_eq_true h2
   subst this
   obtain ⟨h6, h7⟩ := lL h4
   subst h7
   exact ⟨_, .row h1 h3 h6, cM h5⟩
  ·exact h.elim
 ·exact h.elim
noncomputable def fzB (l : List SVal) : St → (List SVal → St → Prop) → Prop :=
 List.rec (motive := fun _ => St → (List SVal → St → Prop) → Prop) (fun st K => K [] st)
  (fun s _ ih st K => match s with
   | .az => ih st fun r st' => K (.lst false [] :: r) st'
   | .lst _ rows => ih st fun r st' => K (.lst false rows :: r) st'
   | .own k s => match st.look k with
    | some (.row m rows s' _) => yes (Nat.beq s' s) (fE st k (.row m rows s true) fun st' => ih st' fun r st'' => K (.lst false rows :: r) st'')
    | _ => False
   | s => ih st fun r st' => K (s :: r) st') l
theorem rA : ∀ {l : List SVal} {st : St} {K : List SVal → St → Prop}, fzB l st K → ∃ l' st', FzL st l l' st' ∧ K l' st'
 | [], st, K, h => ⟨_, _, .nil, h⟩
 | s :: r, st, K, h => by
  have h : match (generalizing := false) s with
   | .az => fzB r st fun r st' => K (.lst false [] :: r) st'
   | .lst _ rows => fzB r st fun r st' => K (.lst false rows :: r) st'
   | .own k s => match st.look k with
    | some (.row m rows s' _) => yes (Nat.beq s' s) (fE st k (.row m rows s true) fun st' => fzB r st' fun r st'' => K (.lst false rows :: r) st'')
    | _ => False
   | s => fzB r st fun r st' => K (s :: r) st' := h
  split at h
  ·obtain ⟨l', st', h1, h3⟩ := rA h
   exact ⟨_, _, .az h1, h3⟩
  ·obtain ⟨l', st', h1, h3⟩ := rA h
   exact ⟨_, _, .lst h1, h3⟩
  ·split at h
   ·rename_i hk
    obtain ⟨e, h4⟩ := bG h
    cases Nat.eq_of_beq_eq_true e
    obtain ⟨l', st', h1, h3⟩ := rA (cM h4)
    exact ⟨_, _, .own hk h1, h3⟩
   ·exact h.elim
  ·obtain ⟨l', st', h1, h3⟩ := rA h
   exact ⟨_, _, .same h1, h3⟩
theorem FzL.length {st st' : St} {l l' : List SVal} (h : FzL st l l' st') : l'.length = l.length := by
 induction h <;> simp_all
section
variable {P : Program} {E : Env} {o : Oper} {ev : Evl} {st st' : St}
theorem lH (hE : a7 P E) {t elem : TypeId} {len size : Nat} {parts : Array (Nat × Operand)} {z : SVal} {ps : List (Nat × SVal)} {l l' : List SVal} (ho : o.op = .buildSlice t len parts) (ht : cJ E t = some elem) (hsz : cj E elem = some size) (hz : fT E elem = some z) (hps : yO ev parts.toList = some ps)
    (hn : Nat.ble (len * size) 1000000 = true) (hzs : Nat.beq (bD z).length size = true) (hfl : oS (fun i => some (i * size, size)) (ln (bD z) len) ps = some l) (ha : FzL st l l' st') (hf : eL l' = true) : bg P o ev st (.own st'.next 0) (st'.fresh (.row size (chunks size len l') 0 false)) :=
  ⟨by simp [ho], ha.sta.1.trans (cO _ _), fun {c w} hr hwf hf' {e} he => by
    have hk : c.ρ st'.next = none := by rw [ha.sta.2]; exact hf' _ (Nat.le_refl _) (by show st.next < st'.next + 1; rw [ha.sta.2]; exact Nat.lt_succ_self _)
    have hp := rG (e := e) (c := c) (fun p hp => he p.2 (by rw [ho]; simp only [Op.operands, List.mem_map]; exact ⟨p, hp, rfl⟩)) hps
    have hu := bP hE ht
    obtain ⟨ie, hie, rfl, hsr⟩ := bE hE hsz
    obtain ⟨ie', zv, hie', hzv, hdz, hzr⟩ := dv hE hz
    rw [hie] at hie'
    cases hie'
    have hs := di (hdz c)
    have hl := hs.length
    have hzs : (bD z).length = ie.size := beq_true hzs
    have hl : zv.cells.size = ie.size := by simpa [hzs] using hl
    obtain ⟨rs, h3, h4⟩ := pP _ hfl hp (nq hs len)
    have hlen : ∀ {ps : List (Nat × SVal)} {cells r : List SVal}, oS (fun i => some (i * ie.size, ie.size)) cells ps = some r → r.length = cells.length := by
      intro ps
      induction ps with
      | nil => intro cells r h; cases h; rfl
      | cons p ps ih =>
        intro cells r h
        have h : bnd (some (p.1 * ie.size, ie.size)) (fun q => whn (Nat.beq (bD p.2).length q.2) (whn (Nat.ble (q.1 + (bD p.2).length) cells.length) (oS (fun i => some (i * ie.size, ie.size)) (over cells q.1 (bD p.2)) ps))) = some r := h
        rw [aU] at h
        obtain ⟨q, _, h⟩ := h
        rw [dJ, dJ] at h
        rw [ih h.2.2, oK _ _ _ (cr h.2.1)]
    have hll : l.length = len * ie.size := by rw [hlen hfl, fV, hzs]
    have hll' : l'.length = len * ie.size := ha.length.trans hll
    obtain ⟨c1, c2, c3⟩ := oZ ie.size len l' hll'
    obtain ⟨d, e1, r1, s1, d1⟩ := ha.ok hr h4
    have hrl := d1.length
    have hel : dq d (chunks ie.size len l') ie.size rs.toArray := lB c2 (by rw [c3]; exact d1) (by rw [c3]; exact fJ hf)
    obtain ⟨g1, g2⟩ := newRow (cap := len) (b := w.heap.size) r1 (by rw [e1]; exact hk) (hwf.sta ha.sta.1) (cE.alloc w (.cells rs.toArray elem)) (eB w _) (Nat.le_refl _) (by simp; omega) (by omega) hel
    refine cZ.val (S := Instr.buildSlice t len (parts.map fun p => (p.1, e p.2))) (by simp only [execOp, ho]) ⟨_, .slice (some ⟨w.heap.size, 0, none⟩) len len, _, ?_, fy (by rw [b8, c1]) ⟨_, _, _, rfl⟩, g1, s1.trans g2 ha.sta.1.next (Nat.le_succ _)⟩
    rw [← kM]
    have hn : len * ie.size ≤ 1000000 := cr hn
    have hsmall : ¬ len * ie.size > 2 ^ 24 := by have : (2 : Nat) ^ 24 = 16777216 := by decide
                                                 omega
    have h3' : Instr.fill (fun i => some (i * ie.size, ie.size)) (madeCells zv.cells (len * ie.size)) (parts.toList.map fun p => (p.1, e p.2)) = some rs.toArray := by
      simpa [hl] using h3
    by_cases hpos : len * ie.size = 0
    · have e0 : madeCells zv.cells (len * ie.size) = #[] := by simp [madeCells, hpos]
      rw [e0] at h3'
      have e1 : Array.map (fun _ => (default : Value)) (Array.range 0) = #[] := by simp
      simp [Instr.buildSlice, run_underlying hu, hsr, hpos, Go.newRow, e1, h3']
    · exact run_buildSlice w t elem len _ rs.toArray ie zv hu hie hzv hsmall hpos (by simpa [madeCells] using h3')⟩
end
def XOk (P : Program) (op : Op) (ev : Evl) (st : St) (K : SVal → St → Prop) : Prop := ∃ s st', (∀ o : Oper, o.op = op → bg P o ev st s st') ∧ K s st'
def CallOp (P : Program) (f : FuncId) (args : List SVal) (st : St) (s : SVal) (st' : St) : Prop :=
 ∀ (o : Oper) (d : Go.Call) (fop : Operand) (first cap ss : List SVal) (ev : Evl), o.op = .call d → d.callee = .value fop → ev fop = some (.func (.func f) first cap) → evs ev d.args.toList = some ss → first ++ (ss ++ cap) = args → bg P o ev st s st'
structure dI (P : Program) (f : FuncId) (args : List SVal) (st : St) (K : SVal → St → Prop) : Prop where
 out : ∃ s st', CallOp P f args st s st' ∧ K s st'
def YieldOp (P : Program) (k : Nat) (args : List SVal) (st : St) (s : SVal) (st' : St) : Prop :=
 ∀ (o : Oper) (d : Go.Call) (fop : Operand) (first cap : List SVal) (ev : Evl), o.op = .call d → d.callee = .value fop → ev fop = some (.func (.yield k) first cap) → evs ev d.args.toList = some args → bg P o ev st s st'
structure YieldR (P : Program) (k : Nat) (args : List SVal) (st : St) (K : SVal → St → Prop) : Prop where
 out : ∃ s st', YieldOp P k args st s st' ∧ K s st'
structure AtR (rows : List (List SVal)) (n : Int) (sz : Nat) (K : List SVal → Prop) : Prop where
 out : ∃ (j : Nat) (row : List SVal), n = (j : Int) ∧ rows[j]? = some row ∧ row.length = sz ∧ K row
structure InR2 (n : Int) (m : Nat) (K : Nat → Prop) : Prop where
 out : ∃ j : Nat, n = (j : Int) ∧ j < m ∧ K j
noncomputable def partO (E : Env) (t : TypeId) (l : List SVal) (off : Nat) : Option SVal := rh E t (l.drop off)
theorem xQ {E : Env} {t : TypeId} {l : List SVal} {off : Nat} {s : SVal} (h : partO E t l off = some s) : qR E t l off = some s := re h
noncomputable def um (place : Nat → Option (Nat × Nat)) : List (Nat × SVal) → List SVal → Option (List SVal)
 | [], cells => some cells
 | p :: ps, cells => match place p.1 with
  | some q => match Nat.beq (bD p.2).length q.2 with
   | true => match ij cells q.1 (bD p.2) with
    | some c => um place ps c
    | none => none
   | false => none
  | none => none
theorem mU {place : Nat → Option (Nat × Nat)} : ∀ {ps : List (Nat × SVal)} {cells r : List SVal}, um place ps cells = some r → oS place cells ps = some r
 | [], cells, r, h => h
 | p :: ps, cells, r, h => by
  unfold um at h
  split at h
  ·rename_i q hq
   split at h
   ·rename_i hb
    split at h
    ·rename_i c hc
     obtain ⟨h1, h2⟩ := lL hc
     subst h2
     show bnd (place p.1) _ = _
     rw [hq]
     show whn _ (whn _ _) = _
     rw [hb, Nat.ble_eq_true_of_le h1]
     exact mU h
    ·cases h
   ·cases h
  ·cases h
noncomputable def wh (sz : Nat) : Nat → List SVal → Option (List (List SVal))
 | 0, _ => some []
 | n + 1, l => match xa sz l with
  | some r => match wh sz n (l.drop sz) with
   | some rs => some (r :: rs)
   | none => none
  | none => none
theorem uI {sz : Nat} : ∀ {n : Nat} {l : List SVal} {r : List (List SVal)}, wh sz n l = some r → r = chunks sz n l
 | 0, l, r, h => by cases h; rfl
 | n + 1, l, r, h => by
  unfold wh at h
  split at h
  ·rename_i a h1
   split at h
   ·rename_i b h2
    cases h
    rw [uI h2, (qh h1).1]
    rfl
   ·cases h
  ·cases h
def srcK (st : St) (x : SVal) (K : List (List SVal) → Prop) : Prop := match x with
 | .az => K []
 | .lst _ rows => K rows
 | .own k s => match st.look k with
  | some (.row _ rows s' _) => yes (Nat.beq s' s) (K rows)
  | _ => False
 | _ => False
theorem vc {st : St} {x : SVal} {K : List (List SVal) → Prop} (h : srcK st x K) : ∃ rows, cH st x rows ∧ K rows := by
 unfold srcK at h
 split at h
 ·exact ⟨_, .nil, h⟩
 ·exact ⟨_, .lst, h⟩
 ·split at h
  ·rename_i h1
   obtain ⟨h2, h3⟩ := bG h
   have := Nat.eq_of_beq_eq_true h2
   subst this
   exact ⟨_, .own h1, h3⟩
  ·exact h.elim
 ·exact h.elim
section
variable (P : Program) (E : Env)
noncomputable def xBin (op : BinOp) (t : TypeId) (a b : SVal) (K : SVal → Prop) : Prop := match a with
 | .int k n => asI b fun k' m => yes (decide (k' = k)) (match op with
  | .add => InR k (n + m) ∧ K (.int k (n + m))
  | .sub => InR k (n - m) ∧ K (.int k (n - m))
  | .mul => InR k (n * m) ∧ K (.int k (n * m))
  | .quo => m ≠ 0 ∧ InR k (n.tdiv m) ∧ K (.int k (n.tdiv m))
  | .rem => m ≠ 0 ∧ K (.int k (n.tmod m))
  | .eql => K (.bool (decide (n = m)))
  | .neq => K (.bool (!decide (n = m)))
  | .lss => K (.bool (decide (n < m)))
  | .leq => K (.bool (decide (n ≤ m)))
  | .gtr => K (.bool (decide (m < n)))
  | .geq => K (.bool (decide (m ≤ n)))
  | _ => False)
 | .str l => match b with
  | .str r => match op with
   | .add => l.length + r.length ≤ 1000000 ∧ K (.str (l ++ r))
   | op => got (rT op l r) fun c => K (.bool c)
  | _ => False
 | a => yes (qQ a) (match op with
  | .eql => got (eqS E 100 t a b) fun c => K (.bool c)
  | .neq => got (eqS E 100 t a b) fun c => K (.bool (!c))
  | _ => False)
theorem xBin_ok (hE : a7 P E) {op : BinOp} {t ty : TypeId} {x y : Operand} {ev : Evl} {st : St} {a b : SVal} {K : SVal → St → Prop} (hx : ev x = some a) (hy : ev y = some b) (h : xBin E op t a b fun s => K s st) : XOk P (.binOp op t x y ty) ev st K := by
 unfold xBin at h
 split at h
 ·rename_i k n
  obtain ⟨k', m, rfl, h⟩ := gC h
  obtain ⟨hk, h⟩ := bG h
  have := of_decide_eq_true hk
  subst this
  split at h
  ·exact ⟨_, _, fun o ho => nE ho hx hy rfl h.1, h.2⟩
  ·exact ⟨_, _, fun o ho => nE ho hx hy rfl h.1, h.2⟩
  ·exact ⟨_, _, fun o ho => nE ho hx hy rfl h.1, h.2⟩
  ·exact ⟨_, _, fun o ho => sem_quo ho hx hy h.1 h.2.1, h.2.2⟩
  ·exact ⟨_, _, fun o ho => sem_rem ho hx hy h.1, h.2⟩
  ·exact ⟨_, _, fun o ho => ky ho hx hy rfl, h⟩
  ·exact ⟨_, _, fun o ho => ky ho hx hy rfl, h⟩
  ·exact ⟨_, _, fun o ho => ky ho hx hy rfl, h⟩
  ·exact ⟨_, _, fun o ho => ky ho hx hy rfl, h⟩
  ·exact ⟨_, _, fun o ho => ky ho hx hy rfl, h⟩
  ·exact ⟨_, _, fun o ho => ky ho hx hy rfl, h⟩
  ·exact h.elim
 ·split at h
  ·split at h
   ·exact ⟨_, _, fun o ho => sem_addS ho hx hy h.1, h.2⟩
   ·obtain ⟨c, h1, h2⟩ := aE h
    exact ⟨_, _, fun o ho => sem_cmpS ho hx hy h1, h2⟩
  ·exact h.elim
 ·obtain ⟨hp, h⟩ := bG h
  split at h
  ·obtain ⟨c, h1, h2⟩ := aE h
   exact ⟨_, _, fun o ho => sem_eq hE ho hx hy hp h1, h2⟩
  ·obtain ⟨c, h1, h2⟩ := aE h
   exact ⟨_, _, fun o ho => sem_ne hE ho hx hy hp h1, h2⟩
  ·exact h.elim
noncomputable def lF (t : TypeId) (a i : SVal) (st : St) (K : SVal → St → Prop) : Prop := asI i fun _ n => match a with
 | .lst _ rows => got (cJ E t) fun el => got (cj E el) fun sz => AtR rows n sz fun row => K (.bA row 0) st
 | .own r s => match st.look r with
  | some (.row m rows s' _) => got (cJ E t) fun el => got (cj E el) fun sz => yes (Nat.beq m sz) (yes (Nat.beq s' s) (InR2 n rows.length fun j => K (.ec r s j 0) st))
  | _ => False
 | p => got (under E t) fun d => match d with
  | .array m el => got (cj E el) fun sz => InR2 n m fun j => got (padd p (j * sz)) fun q => K q st
  | _ => False
theorem sM (hE : a7 P E) {t : TypeId} {x ix : Operand} {ev : Evl} {st : St} {a i : SVal} {K : SVal → St → Prop} (hx : ev x = some a) (hy : ev ix = some i) (h : lF E t a i st K) : XOk P (.indexAddr t x ix) ev st K := by
 unfold lF at h
 obtain ⟨k, n, rfl, h⟩ := gC h
 split at h
 ·obtain ⟨el, h1, h⟩ := aE h
  obtain ⟨sz, h2, ⟨j, row, h3, h4, h5, h⟩⟩ := aE h
  exact ⟨_, _, fun o ho => s6 hE ho hy hx h1 h2 h3 h4 h5, h⟩
 ·split at h
  ·rename_i hk
   obtain ⟨el, h1, h⟩ := aE h
   obtain ⟨sz, h2, h⟩ := aE h
   obtain ⟨h3, g1⟩ := bG h
   obtain ⟨h4, ⟨j, h5, h6, g2⟩⟩ := bG g1
   cases Nat.eq_of_beq_eq_true h3
   cases Nat.eq_of_beq_eq_true h4
   exact ⟨_, _, fun o ho => sZ hE ho hy hx hk h1 h2 h5 h6, g2⟩
  ·exact h.elim
 ·obtain ⟨d, h1, h⟩ := aE h
  split at h
  ·obtain ⟨sz, h2, ⟨j, h3, h4, h⟩⟩ := aE h
   obtain ⟨q, h5, h⟩ := aE h
   exact ⟨_, _, fun o ho => qw hE ho hy hx h1 h2 h3 h4 h5, h⟩
  ·exact h.elim
noncomputable def zM (t : TypeId) (a i : SVal) (st : St) (K : SVal → St → Prop) : Prop := asI i fun _ n => got (under E t) fun d => match d with
 | .string => match a with
  | .str l => ∃ (j : Nat) (b : UInt8), n = (j : Int) ∧ l[j]? = some b ∧ K (.int .u8 b.toNat) st
  | _ => False
 | .array m el => match a with
  | .agg l => got (cj E el) fun sz => InR2 n m fun j => got (partO E el l (j * sz)) fun q => K q st
  | _ => False
 | _ => False
theorem xIndex_ok (hE : a7 P E) {t : TypeId} {x ix : Operand} {ev : Evl} {st : St} {a i : SVal} {K : SVal → St → Prop} (hx : ev x = some a) (hy : ev ix = some i) (h : zM E t a i st K) : XOk P (.index t x ix) ev st K := by
 unfold zM at h
 obtain ⟨k, n, rfl, h⟩ := gC h
 obtain ⟨d, h1, h⟩ := aE h
 split at h
 ·split at h
  ·obtain ⟨j, b, h2, h3, h⟩ := h
   exact ⟨_, _, fun o ho => sY hE ho hy hx h1 h2 h3, h⟩
  ·exact h.elim
 ·split at h
  ·obtain ⟨sz, h2, ⟨j, h3, h4, h⟩⟩ := aE h
   obtain ⟨q, h5, h⟩ := aE h
   exact ⟨_, _, fun o ho => s7 hE ho hy hx h1 h2 h3 h4 (xQ h5), h⟩
  ·exact h.elim
 ·exact h.elim
end
section
variable (P : Program) (E : Env)
noncomputable def evF (ev : Evl) (k s : Nat) (rows : List (List SVal)) (x : Operand) : Option SVal := match ev x with
 | some (.own k' s') => if k' = k ∧ s' = s then some (.lst false rows) else none
 | v => v
theorem vQ {ev : Evl} {k s : Nat} {rows : List (List SVal)} {x : Operand} {kk : IntKind} {n : Int} (h : ev x = some (.int kk n)) : evF ev k s rows x = some (.int kk n) := by unfold evF; rw [h]
theorem evF_evo {ev : Evl} {k s : Nat} {rows : List (List SVal)} {lo : Option Operand} {bl : Option Int} (h : evo ev lo = some bl) : evo (evF ev k s rows) lo = some bl := by
 cases lo with
 | none => exact h
 | some x =>
  have h : bnd (ev x) (fun v => match v with | .int _ n => some (some n) | _ => none) = some bl := h
  rw [aU] at h
  obtain ⟨v, h1, h2⟩ := h
  show bnd (evF ev k s rows x) _ = _
  split at h2
  ·rw [vQ h1]; exact h2
  ·cases h2
theorem qt {P : Program} {E : Env} {o : Oper} {ev : Evl} {st : St} (hE : a7 P E) {t el sz m : Nat} {x hi mx : Operand} {lo : Option Operand} {k s : Nat} {rows : List (List SVal)} {z : Bool} {bl : Option Int} {k1 k2 : IntKind} {nh nm : Int} {l h : Nat} (ho : o.op = .slice t x lo (some hi) (some mx)) (hx : ev x = some (.own k s)) (ht : cJ E t = some el) (hsz : cj E el = some sz)
  (hk : st.look k = some (.row m rows s z)) (hlr : ∀ r ∈ rows, r.length = sz) (hl : evo ev lo = some bl) (hh : ev hi = some (.int k1 nh)) (hm : ev mx = some (.int k2 nm)) (hbl : fQ bl 0 l) (hnh : nh = (h : Int)) (hnm : nm = (h : Int)) (h1 : l ≤ h) (h2 : h ≤ rows.length) :
  bg P o ev st (.lst true ((rows.take h).drop l)) (st.put k (.row m rows s true)) where
 nd := by simp [ho]
 sta := cL _ hk
 ok := fun {c w} hr hwf hfr {e} he a next Q hn => by
  obtain ⟨c1, e1, r1, s1, d1⟩ := lX hk hr
  have g := jA (P := P) (st := st.put k (.row m rows s true)) hE (ev := evF ev k s rows) ho (by unfold evF; rw [hx]; exact if_pos ⟨rfl, rfl⟩) ht hsz hlr (evF_evo hl) (vQ hh) (vQ hm) hbl hnh hnm h1 h2
  refine g.ok r1 (hwf.sta (cL _ hk)) (fun j g1 g2 => by omega) (fun y hy v hv => ?_) a next Q fun c' v w' gd => hn c' v w' ⟨gd.val, gd.rep, s1.trans gd.step (Nat.le_refl _) (Nat.le_refl _)⟩
  unfold evF at hv
  split at hv
  ·rename_i k' s' hy'
   split at hv
   ·rename_i hks
    obtain ⟨rfl, rfl⟩ := hks
    cases hv
    exact d1 _ (he y hy _ hy')
   ·cases hv
  ·exact Den.le s1.le _ _ (he y hy v hv)
noncomputable def zK (ev : Evl) (t : TypeId) (a : SVal) (lo hi mx : Option Operand) (st : St) (K : SVal → St → Prop) : Prop := match a with
 | .str s => match mx with
  | none => got (under E t) fun d => match d with
   | .string => got (evo ev lo) fun bl => got (evo ev hi) fun bh => ∃ l h : Nat, fQ bl 0 l ∧ fQ bh s.length h ∧ l ≤ h ∧ h ≤ s.length ∧ K (.str ((s.take h).drop l)) st
   | _ => False
  | some _ => False
 | .lst _ rows => got (cJ E t) fun el => got (cj E el) fun sz => match mx with
  | none => got (evo ev lo) fun bl => got (evo ev hi) fun bh => (∀ r ∈ rows, r.length = sz) ∧ ∃ l h : Nat, fQ bl 0 l ∧ fQ bh rows.length h ∧ l ≤ h ∧ h ≤ rows.length ∧ AsR ((rows.take h).drop l) fun r => K (.lst false r) st
  | some mx => match hi with
   | some hi => got (evo ev lo) fun bl => got (ev hi) fun vh => got (ev mx) fun vm => asI vh fun _ nh => asI vm fun _ nm => (∀ r ∈ rows, r.length = sz) ∧ ∃ l h : Nat, fQ bl 0 l ∧ nh = (h : Int) ∧ nm = (h : Int) ∧ l ≤ h ∧ h ≤ rows.length ∧ AsR ((rows.take h).drop l) fun r => K (.lst true r) st
   | none => False
 | .own k s => match st.look k with
  | some (.row m rows s' z) => got (cJ E t) fun el => got (cj E el) fun sz => yes (Nat.beq m sz) (yes (Nat.beq s' s) (match lo, hi, mx, z with
   | none, some hi, none, false => got (ev hi) fun vh => asI vh fun _ n => ∃ h : Nat, n = (h : Int) ∧ h ≤ rows.length ∧ AsR (rows.take h) fun r => fE st k (.row m r (s + 1) false) fun st' => K (.own k (s + 1)) st'
   | lo, some hi, some mx, z => got (evo ev lo) fun bl => got (ev hi) fun vh => got (ev mx) fun vm => asI vh fun _ nh => asI vm fun _ nm => (∀ r ∈ rows, r.length = sz) ∧ ∃ l h : Nat, fQ bl 0 l ∧ nh = (h : Int) ∧ nm = (h : Int) ∧ l ≤ h ∧ h ≤ rows.length ∧ AsR ((rows.take h).drop l) fun r => fE st k (.row m rows s true) fun st' => K (.lst true r) st'
   | _, _, _, _ => False))
  | _ => False
 | .az => match mx with
  | none => got (cJ E t) fun el => got (cj E el) fun _ => got (evo ev lo) fun bl => got (evo ev hi) fun bh => fQ bl 0 0 ∧ fQ bh 0 0 ∧ K .az st
  | some _ => False
 | _ => False
theorem xSlice_ok (hE : a7 P E) {t : TypeId} {x : Operand} {lo hi mx : Option Operand} {ev : Evl} {st : St} {a : SVal} {K : SVal → St → Prop} (hx : ev x = some a) (h : zK E ev t a lo hi mx st K) : XOk P (.slice t x lo hi mx) ev st K := by
 unfold zK at h
 split at h
 ·split at h
  ·obtain ⟨d, h1, h⟩ := aE h
   split at h
   ·obtain ⟨bl, h2, g⟩ := aE h
    obtain ⟨bh, h3, l, h', h4, h5, h6, h7, g⟩ := aE g
    exact ⟨_, _, fun o ho => sR hE ho hx h1 h2 h3 h4 h5 h6 h7, g⟩
   ·exact h.elim
  ·exact h.elim
 ·obtain ⟨el, h1, g⟩ := aE h
  obtain ⟨sz, h2, g⟩ := aE g
  split at g
  ·obtain ⟨bl, h3, g⟩ := aE g
   obtain ⟨bh, h4, h5, l, h', h6, h7, h8, h9, ⟨g⟩⟩ := aE g
   exact ⟨_, _, fun o ho => sT hE ho hx h1 h2 h5 h3 h4 h6 h7 h8 h9, g⟩
  ·split at g
   ·obtain ⟨bl, h3, g⟩ := aE g
    obtain ⟨vh, h4, g⟩ := aE g
    obtain ⟨vm, h5, g⟩ := aE g
    obtain ⟨k1, nh, e1, g1⟩ := gC g
    obtain ⟨k2, nm, e2, h6, l, h', h7, h8, h9, h10, h11, ⟨g2⟩⟩ := gC g1
    subst e1
    subst e2
    exact ⟨_, _, fun o ho => jA hE ho hx h1 h2 h6 h3 h4 h5 h7 h8 h9 h10 h11, g2⟩
   ·exact g.elim
 ·split at h
  ·rename_i hk
   obtain ⟨el, h1, g1⟩ := aE h
   obtain ⟨sz, h2, g2⟩ := aE g1
   obtain ⟨h3, g3⟩ := bG g2
   obtain ⟨h4, g4⟩ := bG g3
   cases Nat.eq_of_beq_eq_true h3
   cases Nat.eq_of_beq_eq_true h4
   clear h g1 g2 g3
   split at g4
   ·obtain ⟨vh, h5, g5⟩ := aE g4
    obtain ⟨k1, n, e1, h', h6, h7, ⟨g6⟩⟩ := gC g5
    subst e1
    exact ⟨_, _, fun o ho => sU hE ho hx h1 h2 hk h5 h6 h7, cM g6⟩
   ·obtain ⟨bl, h3, g⟩ := aE g4
    obtain ⟨vh, h4, g⟩ := aE g
    obtain ⟨vm, h5, g⟩ := aE g
    obtain ⟨k1, nh, e1, g1⟩ := gC g
    obtain ⟨k2, nm, e2, h6, l, h', h7, h8, h9, h10, h11, ⟨g2⟩⟩ := gC g1
    subst e1
    subst e2
    exact ⟨_, _, fun o ho => qt hE ho hx h1 h2 hk h6 h3 h4 h5 h7 h8 h9 h10 h11, cM g2⟩
   ·exact g4.elim
  ·exact h.elim
 ·split at h
  ·obtain ⟨el, h1, g⟩ := aE h
   obtain ⟨sz, h2, g⟩ := aE g
   obtain ⟨bl, h3, g⟩ := aE g
   obtain ⟨bh, h4, h5, h6, g⟩ := aE g
   exact ⟨_, _, fun o ho => sS hE ho hx h1 h2 h3 h4 h5 h6, g⟩
  ·exact h.elim
 ·exact h.elim
noncomputable def xLen (t : TypeId) (a : SVal) (st : St) (K : SVal → Prop) : Prop := match a with
 | .str l => got (under E t) fun d => match d with
  | .string => K (.int .i64 l.length)
  | _ => False
 | .map k => match st.look k with
  | some (.map es) => got (under E t) fun d => match d with
   | .map _ _ => LenR es fun n => K (.int .i64 n)
   | _ => False
  | _ => False
 | a => got (under E t) fun d => match d with
  | .slice _ => srcK st a fun rows => LenR rows fun n => K (.int .i64 n)
  | .array n _ => K (.int .i64 n)
  | _ => False
theorem elemT_of {t e : TypeId} (h : under E t = some (.slice e)) : cJ E t = some e := by
 unfold cJ
 rw [h]
 rfl
theorem xLen_ok (hE : a7 P E) {d : Go.Call} {ev : Evl} {st : St} {t : TypeId} {a : SVal} {K : SVal → St → Prop} (hb : d.callee = .builtin .len) (hev : evs ev d.args.toList = some [a]) (ht : d.argTypes[0]? = some t) (h : xLen E t a st fun s => K s st) : XOk P (.call d) ev st K := by
 unfold xLen at h
 split at h
 ·obtain ⟨u, h1, g⟩ := aE h
  split at g
  ·exact ⟨_, _, fun o ho => xi hE ho hb hev ht h1, g⟩
  ·exact g.elim
 ·split at h
  ·rename_i hk
   obtain ⟨u, h1, g⟩ := aE h
   split at g
   ·exact ⟨_, _, fun o ho => xj hE ho hb hev ht h1 hk, g.out⟩
   ·exact g.elim
  ·exact h.elim
 ·obtain ⟨u, h1, g⟩ := aE h
  split at g
  ·obtain ⟨rows, h2, g⟩ := vc g
   exact ⟨_, _, fun o ho => vj hE ho hb hev ht (elemT_of E h1) h2, g.out⟩
  ·exact ⟨_, _, fun o ho => xk hE ho hb hev ht h1, g⟩
  ·exact g.elim
noncomputable def uV (t tx : TypeId) (a x : SVal) (st : St) (K : SVal → St → Prop) : Prop :=
 got (cJ E t) fun e => got (cJ E tx) fun _ => got (cj E e) fun size => got (jX E e) fun b => yes (Nat.ble b 4096) <| got (fT E e) fun z => yes (Nat.beq (bD z).length size) <| srcK st x fun new =>
  (∀ r ∈ new, r.length = size) ∧ match a with
   | .az => new.length ≤ 1000000000 ∧ AsR new fun r => gX st (.row size r 0 false) fun n st' => K (.own n 0) st'
   | .lst true [] => new.length ≤ 1000000000 ∧ AsR new fun r => gX st (.row size r 0 false) fun n st' => K (.own n 0) st'
   | .lst true rows => (∀ r ∈ rows, r.length = size) ∧ 1 ≤ new.length ∧ rows.length + new.length ≤ 1000000000 ∧ AsR (rows ++ new) fun r => gX st (.row size r 0 false) fun n st' => K (.own n 0) st'
   | .own k s => match st.look k with
    | some (.row m rows s' z) => yes (Nat.beq m size) (yes (Nat.beq s' s) (rows.length + new.length ≤ 1000000000 ∧ AsR (rows ++ new) fun r => fE st k (.row m r (s + 1) z) fun st' => K (.own k (s + 1)) st'))
    | _ => False
   | _ => False
theorem zO (hE : a7 P E) {d : Go.Call} {ev : Evl} {st : St} {t tx : TypeId} {a x : SVal} {K : SVal → St → Prop} (hb : d.callee = .builtin .append) (hev : evs ev d.args.toList = some [a, x]) (ht : d.argTypes = #[t, tx]) (h : uV E t tx a x st K) : XOk P (.call d) ev st K := by
 unfold uV at h
 obtain ⟨e, h1, g⟩ := aE h
 obtain ⟨e', h2, g⟩ := aE g
 obtain ⟨size, h3, g⟩ := aE g
 obtain ⟨b, h4, g⟩ := aE g
 obtain ⟨h5, g⟩ := bG g
 obtain ⟨z, h6, g⟩ := aE g
 obtain ⟨h7, g⟩ := bG g
 obtain ⟨new, h8, h9, g⟩ := vc g
 have hT : AppT P E d t tx e size := ⟨ht, h1, ⟨_, h2⟩, h3, ⟨b, h4, h5⟩, ⟨z, h6, h7⟩⟩
 split at g
 ·exact ⟨_, _, fun o ho => jB hE ho hb hev hT (.inl rfl) h8 h9 g.1, dU g.2.out⟩
 ·exact ⟨_, _, fun o ho => jB hE ho hb hev hT (.inr rfl) h8 h9 g.1, dU g.2.out⟩
 ·exact ⟨_, _, fun o ho => pj hE ho hb hev hT h8 h9 g.1 g.2.1 g.2.2.1, dU g.2.2.2.out⟩
 ·split at g
  ·rename_i hk
   obtain ⟨e1, g1⟩ := bG g
   obtain ⟨e2, g2⟩ := bG g1
   cases Nat.eq_of_beq_eq_true e1
   cases Nat.eq_of_beq_eq_true e2
   exact ⟨_, _, fun o ho => qy hE ho hb hev hT hk h8 h9 g2.1, cM g2.2.out⟩
  ·exact g.elim
 ·exact g.elim
noncomputable def xCopy (t tx : TypeId) (a x : SVal) (st : St) (K : SVal → St → Prop) : Prop := match a with
 | .own k s => match st.look k with
  | some (.row m rows s' false) => got (cJ E t) fun e => got (cJ E tx) fun _ => got (cj E e) fun size => yes (Nat.beq m size) <| yes (Nat.beq s' s) <| srcK st x fun new =>
    (∀ r ∈ new, r.length = size) ∧ new.length = rows.length ∧ AsR new fun r => fE st k (.row m r s false) fun st' => K (.int .i64 rows.length) st'
  | _ => False
 | _ => False
theorem xCopy_ok (hE : a7 P E) {d : Go.Call} {ev : Evl} {st : St} {t tx : TypeId} {a x : SVal} {K : SVal → St → Prop} (hb : d.callee = .builtin .copy) (hev : evs ev d.args.toList = some [a, x]) (ht : d.argTypes = #[t, tx]) (h : xCopy E t tx a x st K) : XOk P (.call d) ev st K := by
 unfold xCopy at h
 split at h
 ·split at h
  ·rename_i hk
   obtain ⟨e, h1, g⟩ := aE h
   obtain ⟨e', h2, g⟩ := aE g
   obtain ⟨size, h3, g⟩ := aE g
   obtain ⟨e1, g1⟩ := bG g
   obtain ⟨e2, g2⟩ := bG g1
   obtain ⟨new, h4, h5, h6, ⟨g3⟩⟩ := vc g2
   cases Nat.eq_of_beq_eq_true e1
   cases Nat.eq_of_beq_eq_true e2
   exact ⟨_, _, fun o ho => sem_copy hE ho hb hev ht h1 h2 h3 hk h4 h5 h6, cM g3⟩
  ·exact h.elim
 ·exact h.elim
noncomputable def zJ (t tn : TypeId) (a : SVal) (n : Int) (st : St) (K : SVal → St → Prop) : Prop := match a with
 | .az => got (cJ E t) fun e => got (under E tn) fun dn => match dn with
  | .int _ => got (cj E e) fun size => got (jX E e) fun b => yes (Nat.ble b 4096) <| got (fT E e) fun z => iW z fun cs => yes (Nat.beq cs.length size) <| yes (Nat.ble 1 size) <| yes (eL cs) <|
    ∃ k : Nat, n = (k : Int) ∧ 0 < k ∧ k ≤ 1000000000 ∧ AsR (List.replicate k cs) fun r => gX st (.row size r 0 false) fun n st' => K (.own n 0) st'
  | _ => False
 | _ => False
theorem xZeros_ok (hE : a7 P E) {d : Go.Call} {ev : Evl} {st : St} {t tn : TypeId} {a : SVal} {kq : IntKind} {n : Int} {K : SVal → St → Prop} (hb : d.callee = .builtin .append) (hev : evs ev d.args.toList = some [a, .int kq n]) (ht : d.argTypes = #[t, tn]) (h : zJ E t tn a n st K) : XOk P (.call d) ev st K := by
 unfold zJ at h
 split at h
 ·obtain ⟨e, h1, g⟩ := aE h
  obtain ⟨dn, h2, g⟩ := aE g
  split at g
  ·obtain ⟨size, h3, g⟩ := aE g
   obtain ⟨b, h4, g⟩ := aE g
   obtain ⟨h5, g⟩ := bG g
   obtain ⟨z, h6, g⟩ := aE g
   have g := ey g
   obtain ⟨h7, g⟩ := bG g
   obtain ⟨h8, g⟩ := bG g
   obtain ⟨h9, k, h10, h11, h12, ⟨g⟩⟩ := bG g
   exact ⟨_, _, fun o ho => nF hE ho hb hev ht h1 h2 h3 h4 h5 h6 h7 h8 h9 h10 h11 h12, dU g⟩
  ·exact g.elim
 ·exact h.elim
noncomputable def xCap (t : TypeId) (a : SVal) (K : SVal → Prop) : Prop := got (cJ E t) fun _ => match a with
 | .az => K (.int .i64 (0 : Nat))
 | .lst true rows => K (.int .i64 rows.length)
 | _ => False
theorem xCap_ok (hE : a7 P E) {d : Go.Call} {ev : Evl} {st : St} {t : TypeId} {a : SVal} {K : SVal → St → Prop} (hb : d.callee = .builtin .cap) (hev : evs ev d.args.toList = some [a]) (ht : d.argTypes[0]? = some t) (h : xCap E t a fun s => K s st) : XOk P (.call d) ev st K := by
 unfold xCap at h
 obtain ⟨e, h1, g⟩ := aE h
 split at g
 ·exact ⟨_, _, fun o ho => sem_cap hE ho hb hev ht h1 (.inl ⟨rfl, rfl⟩), g⟩
 ·exact ⟨_, _, fun o ho => sem_cap hE ho hb hev ht h1 (.inr ⟨_, rfl, rfl⟩), g⟩
 ·exact g.elim
noncomputable def xCall (d : Go.Call) (ev : Evl) (st : St) (K : SVal → St → Prop) : Prop := match d with
 | ⟨.value fop, args, _⟩ => got (ev fop) fun f => got (evs ev args.toList) fun ss => match f with
  | .func (.func f) first cap => got (appO ss cap) fun r => got (appO first r) fun all => dI P f all st K
  | .func (.yield k) _ _ => YieldR P k ss st K
  | _ => False
 | ⟨.builtin b, args, ⟨ts⟩⟩ => got (evs ev args.toList) fun ss => match b with
  | .len => match ts, ss with
   | t :: _, [a] => xLen E t a st fun s => K s st
   | _, _ => False
  | .append => match ts, ss with
   | [t, tx], [a, .int _ n] => zJ E t tx a n st K
   | [t, tx], [a, x] => uV E t tx a x st K
   | _, _ => False
  | .copy => match ts, ss with
   | [t, tx], [a, x] => xCopy E t tx a x st K
   | _, _ => False
  | .cap => match ts, ss with
   | t :: _, [a] => xCap E t a fun s => K s st
   | _, _ => False
  | .max => match ss with
   | [.int k a, .int k' b] => yes (decide (k' = k)) (K (.int k (if b > a then b else a)) st)
   | _ => False
  | .min => match ss with
   | [.int k a, .int k' b] => yes (decide (k' = k)) (K (.int k (if b < a then b else a)) st)
   | _ => False
  | _ => False
 | _ => False
theorem xCall_ok (hE : a7 P E) {d : Go.Call} {ev : Evl} {st : St} {K : SVal → St → Prop} (h : xCall P E d ev st K) : XOk P (.call d) ev st K := by
 unfold xCall at h
 split at h
 ·obtain ⟨f, h1, g⟩ := aE h
  obtain ⟨ss, h2, g⟩ := aE g
  split at g
  ·obtain ⟨r, h3, g⟩ := aE g
   obtain ⟨all, h4, g⟩ := aE g
   obtain ⟨s, st', h5, g⟩ := g.out
   exact ⟨s, st', fun o ho => h5 o _ _ _ _ _ ev ho rfl h1 h2 (by rw [wC h4, wC h3]), g⟩
  ·obtain ⟨s, st', h5, g⟩ := g.out
   exact ⟨s, st', fun o ho => h5 o _ _ _ _ ev ho rfl h1 h2, g⟩
  ·exact g.elim
 ·obtain ⟨ss, h2, g⟩ := aE h
  split at g
  ·split at g
   ·exact xLen_ok P E hE (d := ⟨.builtin .len, _, _⟩) rfl h2 rfl g
   ·exact g.elim
  ·split at g
   ·exact xZeros_ok P E hE (d := ⟨.builtin .append, _, _⟩) rfl h2 rfl g
   ·exact zO P E hE (d := ⟨.builtin .append, _, _⟩) rfl h2 rfl g
   ·exact g.elim
  ·split at g
   ·exact xCopy_ok P E hE (d := ⟨.builtin .copy, _, _⟩) rfl h2 rfl g
   ·exact g.elim
  ·split at g
   ·exact xCap_ok P E hE (d := ⟨.builtin .cap, _, _⟩) rfl h2 rfl g
   ·exact g.elim
  ·split at g
   ·obtain ⟨hk, g1⟩ := bG g
    cases of_decide_eq_true hk
    exact ⟨_, _, fun o ho => sem_max2 ho rfl h2, g1⟩
   ·exact g.elim
  ·split at g
   ·obtain ⟨hk, g1⟩ := bG g
    cases of_decide_eq_true hk
    exact ⟨_, _, fun o ho => sem_min2 ho rfl h2, g1⟩
   ·exact g.elim
  ·exact g.elim
 ·exact h.elim
end
section
variable (P : Program) (E : Env)
noncomputable def zN (t : TypeId) (ps : List (Nat × SVal)) (K : SVal → Prop) : Prop := got (fT E t) fun z => got (under E t) fun d => match d with
 | .struct fs => got (places E fs.toList) fun pl => iW z fun cs => got (um (fun i => pl[i]?) ps cs) fun l => K (.agg l)
 | .array _ el => got (cj E el) fun size => iW z fun cs => got (um (fun i => some (i * size, size)) ps cs) fun l => K (.agg l)
 | _ => False
theorem xBuild_ok (hE : a7 P E) {t : TypeId} {parts : Array (Nat × Operand)} {ev : Evl} {st : St} {ps : List (Nat × SVal)} {K : SVal → St → Prop} (hps : yO ev parts.toList = some ps) (h : zN E t ps fun s => K s st) : XOk P (.build t parts) ev st K := by
 unfold zN at h
 obtain ⟨z, h1, g⟩ := aE h
 obtain ⟨d, h2, g⟩ := aE g
 split at g
 ·obtain ⟨pl, h3, g⟩ := aE g
  have g := ey g
  obtain ⟨l, h4, g⟩ := aE g
  refine ⟨_, _, fun o ho => tK hE ho h1 h2 hps ?_, g⟩
  have h5 := mU h4
  unfold pR
  simp only [h3, bnd, h5]
 ·obtain ⟨size, h3, g⟩ := aE g
  have g := ey g
  obtain ⟨l, h4, g⟩ := aE g
  refine ⟨_, _, fun o ho => tK hE ho h1 h2 hps ?_, g⟩
  have h5 := mU h4
  unfold pR
  simp only [h3, bnd, h5]
 ·exact g.elim
noncomputable def js (t : TypeId) (len : Nat) (ps : List (Nat × SVal)) (st : St) (K : SVal → St → Prop) : Prop :=
 got (cJ E t) fun el => got (cj E el) fun size => got (fT E el) fun z => yes (Nat.ble (len * size) 1000000) <| iW z fun cs => yes (Nat.beq cs.length size) <|
  got (um (fun i => some (i * size, size)) ps (ln cs len)) fun l => fzB l st fun l st => yes (eL l) <| got (wh size len l) fun rows => gX st (.row size rows 0 false) fun n st' => K (.own n 0) st'
theorem pZ (hE : a7 P E) {t : TypeId} {len : Nat} {parts : Array (Nat × Operand)} {ev : Evl} {st : St} {ps : List (Nat × SVal)} {K : SVal → St → Prop} (hps : yO ev parts.toList = some ps) (h : js E t len ps st K) : XOk P (.buildSlice t len parts) ev st K := by
 unfold js at h
 obtain ⟨el, h1, g⟩ := aE h
 obtain ⟨size, h2, g⟩ := aE g
 obtain ⟨z, h3, g⟩ := aE g
 obtain ⟨h4, g⟩ := bG g
 have g := ey g
 obtain ⟨h5, g⟩ := bG g
 obtain ⟨l, h6, g⟩ := aE g
 obtain ⟨l', st', ha, g⟩ := rA g
 obtain ⟨h7, g⟩ := bG g
 obtain ⟨rows, h8, g⟩ := aE g
 cases uI h8
 exact ⟨_, _, fun o ho => lH hE ho h1 h2 h3 hps h4 h5 (mU h6) ha h7, dU g⟩
noncomputable def pY (a b : TypeId) (v : SVal) (st : St) (K : SVal → Prop) : Prop := got (under E a) fun da => got (under E b) fun db => match v with
 | .int _ n => match da, db with
  | .int _, .int k' => InR k' n ∧ K (.int k' n)
  | _, _ => False
 | .str l => match da, db with
  | .string, .string => K (.str l)
  | _, _ => False
 | s => match da, db with
  | .slice e8, .string => got (under E e8) fun d8 => match d8 with
   | .int .u8 => ∃ l, cH st s (fN l) ∧ K (.str l)
   | _ => False
  | _, _ => False
theorem wJ (hE : a7 P E) {a b : TypeId} {x : Operand} {ev : Evl} {st : St} {v : SVal} {K : SVal → St → Prop} (hx : ev x = some v) (h : pY E a b v st fun s => K s st) : XOk P (.convert a b x) ev st K := by
 unfold pY at h
 obtain ⟨da, h1, g⟩ := aE h
 obtain ⟨db, h2, g⟩ := aE g
 split at g
 ·split at g
  ·exact ⟨_, _, fun o ho => vn hE ho hx h1 h2 g.1, g.2⟩
  ·exact g.elim
 ·split at g
  ·exact ⟨_, _, fun o ho => vk hE ho hx h1 h2, g⟩
  ·exact g.elim
 ·split at g
  ·obtain ⟨d8, h3, g⟩ := aE g
   split at g
   ·obtain ⟨l, h4, g⟩ := g
    exact ⟨_, _, fun o ho => qx hE ho hx h1 h2 h3 h4, g⟩
   ·exact g.elim
  ·exact g.elim
def nilOk : SVal → Bool
 | .ptr _ _ => true
 | .ec _ _ _ _ => true
 | .bA _ _ => true
 | .func (.func _) _ _ => true
 | _ => false
theorem nilOk_ok {s : SVal} (h : nilOk s = true) : (∃ k off, s = .ptr k off) ∨ (∃ k t i off, s = .ec k t i off) ∨ (∃ r off, s = .bA r off) ∨ (∃ f a b, s = .func (.func f) a b) := by
 unfold nilOk at h
 split at h
 ·exact .inl ⟨_, _, rfl⟩
 ·exact .inr (.inl ⟨_, _, _, _, rfl⟩)
 ·exact .inr (.inr (.inl ⟨_, _, rfl⟩))
 ·exact .inr (.inr (.inr ⟨_, _, _, rfl⟩))
 ·cases h
noncomputable def uU (t : TypeId) (m key : SVal) (ok : Bool) (st : St) (K : SVal → Prop) : Prop := match m with
 | .map k => match st.look k with
  | some (.map es) => got (bnd (under E t) mapD) fun ke => got (under E ke.1) fun d => got (fT E ke.2) fun z => eC d key ∧ (∀ p ∈ es, eC d p.1) ∧ ∃ r, fP es key r ∧ match r with
   | none => K (lookV ok z false)
   | some p => K (lookV ok p.2 true)
  | _ => False
 | _ => False
theorem zL (hE : a7 P E) {t : TypeId} {x ix : Operand} {ok : Bool} {ev : Evl} {st : St} {m key : SVal} {K : SVal → St → Prop} (hx : ev x = some m) (hy : ev ix = some key) (h : uU E t m key ok st fun s => K s st) : XOk P (.lookup t x ix ok) ev st K := by
 unfold uU at h
 split at h
 ·split at h
  ·rename_i hk
   obtain ⟨ke, h1, g⟩ := aE h
   obtain ⟨d, h2, g⟩ := aE g
   obtain ⟨z, h3, h4, h5, r, h6, g⟩ := aE g
   split at g
   ·exact ⟨_, _, fun o ho => qv hE ho h1 h2 hx hy hk h4 h5 h6 (.inl ⟨rfl, z, h3, rfl⟩), g⟩
   ·exact ⟨_, _, fun o ho => qv hE ho h1 h2 hx hy hk h4 h5 h6 (.inr ⟨_, _, rfl, rfl⟩), g⟩
  ·exact h.elim
 ·exact h.elim
noncomputable def pA (t : TypeId) (m key v : SVal) (st : St) (K : SVal → St → Prop) : Prop := match m with
 | .map k => match st.look k with
  | some (.map es) => got (bnd (under E t) mapD) fun ke => got (under E ke.1) fun d => eC d key ∧ (∀ p ∈ es, eC d p.1) ∧ fP es key none ∧ fE st k (.map (es ++ [(key, v)])) fun st' => K (.tup []) st'
  | _ => False
 | _ => False
theorem pW (hE : a7 P E) {op : Op} {t : TypeId} {x ix y : Operand} {ev : Evl} {st : St} {m key v : SVal} {K : SVal → St → Prop} (hop : op = .mapUpdate t x ix y ∨ op = .insert t x ix y) (hx : ev x = some m) (hy : ev ix = some key) (hv : ev y = some v) (h : pA E t m key v st K) : XOk P op ev st K := by
 unfold pA at h
 split at h
 ·split at h
  ·rename_i hk
   obtain ⟨ke, h1, g⟩ := aE h
   obtain ⟨d, h2, h4, h5, h6, g⟩ := aE g
   exact ⟨_, _, fun o ho => sW hE (ho ▸ hop) h1 h2 hx hy hv hk h4 h5 h6, cM g⟩
  ·exact h.elim
 ·exact h.elim
noncomputable def lE (t : TypeId) (a b : SVal) (st : St) (K : SVal → St → Prop) : Prop := asI a fun _ li => asI b fun _ ci =>
 got (cJ E t) fun el => got (jX E el) fun bytes => got (cj E el) fun size => got (fT E el) fun z => yes (Nat.ble bytes 4096) <| iW z fun cs => yes (Nat.beq cs.length size) <| yes (eL cs) <|
  ∃ l cp : Nat, li = (l : Int) ∧ ci = (cp : Int) ∧ l ≤ cp ∧ cp < 1000000000 ∧ AsR (List.replicate l cs) fun r => gX st (.row size r 0 false) fun n st' => K (.own n 0) st'
theorem sL (hE : a7 P E) {t : TypeId} {x y : Operand} {ev : Evl} {st : St} {a b : SVal} {K : SVal → St → Prop} (hx : ev x = some a) (hy : ev y = some b) (h : lE E t a b st K) : XOk P (.makeSlice t x y) ev st K := by
 unfold lE at h
 obtain ⟨k1, li, e1, g1⟩ := gC h
 obtain ⟨k2, ci, e2, g⟩ := gC g1
 subst e1
 subst e2
 obtain ⟨el, h1, g⟩ := aE g
 obtain ⟨bytes, h2, g⟩ := aE g
 obtain ⟨size, h3, g⟩ := aE g
 obtain ⟨z, h4, g⟩ := aE g
 obtain ⟨h5, g⟩ := bG g
 have g := ey g
 obtain ⟨h6, g⟩ := bG g
 obtain ⟨h7, l, cp, h8, h9, h10, h11, ⟨g⟩⟩ := bG g
 exact ⟨_, _, fun o ho => sX hE ho hx hy h8 h9 h10 h11 h1 h2 h3 h4 h5 h6 h7, dU g⟩
noncomputable def xOp (op : Op) (ev : Evl) (st : St) (K : SVal → St → Prop) : Prop := match op with
 | .move x => got (ev x) fun s => K s st
 | .assign x => got (ev x) fun s => K s st
 | .pick c a b => got (ev c) fun v => asB v fun t => way t (got (ev a) fun s => K s st) (got (ev b) fun s => K s st)
 | .alloc t => got (fT E t) fun z => iW z fun l => gX st (.cells l) fun n st' => K (.ptr n 0) st'
 | .box _ x => got (ev x) fun v => iW v fun l => gX st (.cells l) fun n st' => K (.ptr n 0) st'
 | .build t ps => got (yO ev ps.toList) fun ps => zN E t ps fun s => K s st
 | .buildSlice t n ps => got (yO ev ps.toList) fun ps => js E t n ps st K
 | .insert t m k v => got (ev m) fun m => got (ev k) fun k => got (ev v) fun v => pA E t m k v st K
 | .mapUpdate t m k v => got (ev m) fun m => got (ev k) fun k => got (ev v) fun v => pA E t m k v st K
 | .load t x => got (ev x) fun p => readK st p fun l => got (rh E t l) fun s => K s st
 | .store t x y => got (ev x) fun p => got (ev y) fun s => got (cj E t) fun n => iW s fun cs => yes (Nat.beq cs.length n) <| yes (eL cs) <| zP st p cs fun st' => K (.tup []) st'
 | .nilCheck x => got (ev x) fun s => yes (nilOk s) (K s st)
 | .binOp op t x y _ => got (ev x) fun a => got (ev y) fun b => xBin E op t a b fun s => K s st
 | .unOp .not _ x => got (ev x) fun v => asB v fun b => K (.bool (!b)) st
 | .unOp .neg _ x => got (ev x) fun v => asI v fun k n => InR k (0 - n) ∧ K (.int k (0 - n)) st
 | .convert a b x => got (ev x) fun v => pY E a b v st fun s => K s st
 | .makeFunc fn a b => yes (cY fn) <| got (evs ev a.toList) fun a => got (evs ev b.toList) fun b => K (.func fn a b) st
 | .makeMap _ none => gX st (.map []) fun n st' => K (.map n) st'
 | .makeSlice t a b => got (ev a) fun a => got (ev b) fun b => lE E t a b st K
 | .slice t x lo hi mx => got (ev x) fun a => zK E ev t a lo hi mx st K
 | .fieldAddr t x f => got (ev x) fun p => got (n5 E t f) fun fd => got (cj E fd.type) fun n => yes (Nat.ble 1 n) <| got (padd p fd.offset) fun s => K s st
 | .field t x f => got (ev x) fun v => match v with
  | .agg l => got (n5 E t f) fun fd => got (partO E fd.type l fd.offset) fun s => K s st
  | _ => False
 | .indexAddr t x i => got (ev x) fun a => got (ev i) fun i => lF E t a i st K
 | .index t x i => got (ev x) fun a => got (ev i) fun i => zM E t a i st K
 | .lookup t x i ok => got (ev x) fun m => got (ev i) fun k => uU E t m k ok st fun s => K s st
 | .extract x i => got (ev x) fun v => match v with
  | .tup l => got (l[i]?) fun s => K s st
  | _ => False
 | .call d => xCall P E d ev st K
 | _ => False
theorem xOp_ok (hE : a7 P E) {op : Op} {ev : Evl} {st : St} {K : SVal → St → Prop} (h : xOp P E op ev st K) : XOk P op ev st K := by
 unfold xOp at h
 split at h
 ·obtain ⟨s, h1, g⟩ := aE h
  exact ⟨_, _, fun o ho => sem_move ho h1, g⟩
 ·obtain ⟨s, h1, g⟩ := aE h
  exact ⟨_, _, fun o ho => sem_assign ho h1, g⟩
 ·obtain ⟨v, h1, g⟩ := aE h
  obtain ⟨t, e1, g1⟩ := asB_ok g
  subst e1
  rcases zT g1 with ⟨rfl, g2⟩ | ⟨rfl, g2⟩
  ·obtain ⟨s, h2, g3⟩ := aE g2
   exact ⟨_, _, fun o ho => xg ho h1 h2, g3⟩
  ·obtain ⟨s, h2, g3⟩ := aE g2
   exact ⟨_, _, fun o ho => xg ho h1 h2, g3⟩
 ·obtain ⟨z, h1, g⟩ := aE h
  exact ⟨_, _, fun o ho => sem_alloc hE ho h1, dU (ey g)⟩
 ·obtain ⟨z, h1, g⟩ := aE h
  exact ⟨_, _, fun o ho => sem_box ho h1, dU (ey g)⟩
 ·obtain ⟨ps, h1, g⟩ := aE h
  exact xBuild_ok P E hE h1 g
 ·obtain ⟨ps, h1, g⟩ := aE h
  exact pZ P E hE h1 g
 ·obtain ⟨m, h1, g⟩ := aE h
  obtain ⟨k, h2, g⟩ := aE g
  obtain ⟨v, h3, g⟩ := aE g
  exact pW P E hE (.inr rfl) h1 h2 h3 g
 ·obtain ⟨m, h1, g⟩ := aE h
  obtain ⟨k, h2, g⟩ := aE g
  obtain ⟨v, h3, g⟩ := aE g
  exact pW P E hE (.inl rfl) h1 h2 h3 g
 ·obtain ⟨p, h1, g⟩ := aE h
  obtain ⟨l, h2, g⟩ := xN g
  obtain ⟨s, h3, g⟩ := aE g
  exact ⟨_, _, fun o ho => sem_load hE ho h1 h2 (re h3), g⟩
 ·obtain ⟨p, h1, g⟩ := aE h
  obtain ⟨s, h2, g⟩ := aE g
  obtain ⟨n, h3, g⟩ := aE g
  have g := ey g
  obtain ⟨h4, g⟩ := bG g
  obtain ⟨h5, g⟩ := bG g
  obtain ⟨st', h6, g⟩ := writeK_ok g
  exact ⟨_, _, fun o ho => sem_store hE ho h1 h2 h3 h4 (fJ h5) h6, g⟩
 ·obtain ⟨s, h1, g⟩ := aE h
  obtain ⟨h2, g⟩ := bG g
  exact ⟨_, _, fun o ho => vg ho h1 (nilOk_ok h2), g⟩
 ·obtain ⟨a, h1, g⟩ := aE h
  obtain ⟨b, h2, g⟩ := aE g
  exact xBin_ok P E hE h1 h2 g
 ·obtain ⟨v, h1, g⟩ := aE h
  obtain ⟨b, e1, g1⟩ := asB_ok g
  subst e1
  exact ⟨_, _, fun o ho => sem_not ho h1, g1⟩
 ·obtain ⟨v, h1, g⟩ := aE h
  obtain ⟨k, n, e1, g1⟩ := gC g
  subst e1
  exact ⟨_, _, fun o ho => sem_neg ho h1 g1.1, g1.2⟩
 ·obtain ⟨v, h1, g⟩ := aE h
  exact wJ P E hE h1 g
 ·obtain ⟨h1, g⟩ := bG h
  obtain ⟨a, h2, g⟩ := aE g
  obtain ⟨b, h3, g⟩ := aE g
  exact ⟨_, _, fun o ho => vi ho h1 h2 h3, g⟩
 ·exact ⟨_, _, fun o ho => xh ho, dU h⟩
 ·obtain ⟨a, h1, g⟩ := aE h
  obtain ⟨b, h2, g⟩ := aE g
  exact sL P E hE h1 h2 g
 ·obtain ⟨a, h1, g⟩ := aE h
  exact xSlice_ok P E hE h1 g
 ·obtain ⟨p, h1, g⟩ := aE h
  obtain ⟨fd, h2, g⟩ := aE g
  obtain ⟨n, h3, g⟩ := aE g
  obtain ⟨h4, g⟩ := bG g
  obtain ⟨s, h5, g⟩ := aE g
  exact ⟨_, _, fun o ho => s8 hE ho h2 h1 h3 h4 h5, g⟩
 ·obtain ⟨v, h1, g⟩ := aE h
  split at g
  ·obtain ⟨fd, h2, g⟩ := aE g
   obtain ⟨s, h3, g⟩ := aE g
   exact ⟨_, _, fun o ho => sem_field hE ho h2 h1 (xQ h3), g⟩
  ·exact g.elim
 ·obtain ⟨a, h1, g⟩ := aE h
  obtain ⟨i, h2, g⟩ := aE g
  exact sM P E hE h1 h2 g
 ·obtain ⟨a, h1, g⟩ := aE h
  obtain ⟨i, h2, g⟩ := aE g
  exact xIndex_ok P E hE h1 h2 g
 ·obtain ⟨a, h1, g⟩ := aE h
  obtain ⟨i, h2, g⟩ := aE g
  exact zL P E hE h1 h2 g
 ·obtain ⟨v, h1, g⟩ := aE h
  split at g
  ·obtain ⟨s, h2, g⟩ := aE g
   exact ⟨_, _, fun o ho => xl ho h1 h2, g⟩
  ·exact g.elim
 ·exact xCall_ok P E hE h
 ·exact h.elim
end
section
variable (P : Program) (E : Env)
noncomputable def lq (fr : Fr) (d : Option Nat) (v : SVal) (K : Fr → Prop) : Prop := match d with
 | none => K fr
 | some d => match fr with
  | ⟨n, t⟩ => yes (Nat.ble (Nat.succ d) n) (K ⟨n, (d, v) :: t⟩)
theorem mo {fr : Fr} {d : Option Nat} {v : SVal} {K : Fr → Prop} (h : lq fr d v K) : ∃ fr', nJ fr d v = some fr' ∧ K fr' := by
 unfold lq at h
 split at h
 ·exact ⟨_, rfl, h⟩
 ·obtain ⟨n, t⟩ := fr
  obtain ⟨h1, g⟩ := bG h
  refine ⟨_, ?_, g⟩
  show whn (Nat.ble _ n) _ = _
  rw [h1]
  rfl
noncomputable def tz (all : List Oper) (fr : Fr) (g : Option (Nat × Bool)) (K : Bool → Fr → Prop) : Prop := match g with
 | none => K true fr
 | some (j, b) => got (all[j]?) fun q => got q.dst fun d => got (fr.get d) fun v => match v with
  | .bool c => match fr with
   | ⟨n, t⟩ => way c (K b ⟨n, (d, .bool true) :: t⟩) (K (!b) ⟨n, (d, .bool false) :: t⟩)
  | .tup [] => K false fr
  | _ => False
structure eW (fr1 fr : Fr) : Prop where
 n : fr1.n = fr.n
 get : ∀ t, fr1.get t = fr.get t
theorem eW.refl (fr : Fr) : eW fr fr := ⟨rfl, fun _ => rfl⟩
theorem wG.eqv {P : Program} {ops : Array Oper} {l : List Oper} {fr fr1 fr' : Fr} {st st' : St} (hf : eW fr1 fr) (h : wG P ops l fr1 st fr' st') : wG P ops l fr st fr' st' := by
 obtain ⟨h1, h2, h3⟩ := h
 refine ⟨h1, h2.trans hf.n, fun hr hwf hfree hfr => ?_⟩
 exact h3 hr hwf hfree ⟨hfr.size.trans hf.n.symm, fun t s hs => hfr.get t s (hf.get t ▸ hs), hfr.defers⟩
theorem sI.eqv {P : Program} {ops : Array Oper} {l : List Oper} {fr fr1 : Fr} {st : St} {Φ : Fr → St → Prop} (hf : eW fr1 fr) (h : sI P ops l fr1 st Φ) : sI P ops l fr st Φ := by
 obtain ⟨fr', st', h1, h2⟩ := h
 exact ⟨fr', st', h1.eqv hf, h2⟩
theorem rB {n : Nat} {t : List (Nat × SVal)} {d : Nat} {v : SVal} (h : Fr.get ⟨n, t⟩ d = some v) : eW ⟨n, (d, v) :: t⟩ ⟨n, t⟩ := by
 refine ⟨rfl, fun k => ?_⟩
 show ba ((d, v) :: t) k = ba t k
 rw [bI]
 split
 ·rename_i e
  subst e
  exact h.symm
 ·rfl
theorem wO {all : List Oper} {fr : Fr} {g : Option (Nat × Bool)} {K : Bool → Fr → Prop} (h : tz all fr g K) : ∃ b fr1, eW fr1 fr ∧ jt all fr1 g = some b ∧ K b fr1 := by
 unfold tz at h
 split at h
 ·exact ⟨true, fr, eW.refl fr, rfl, h⟩
 ·rename_i j b
  obtain ⟨q, h1, g⟩ := aE h
  obtain ⟨d, h2, g⟩ := aE g
  obtain ⟨v, h3, g⟩ := aE g
  have hw : ∀ (fr1 : Fr) (v : SVal), fr1.get d = some v → jt all fr1 (some (j, b)) = fA b v := by
   intro fr1 v hv
   show bnd (all[j]?) _ = _
   rw [h1]
   show bnd q.dst _ = _
   rw [h2]
   show bnd (fr1.get d) _ = _
   rw [hv]
   rfl
  split at g
  ·obtain ⟨n, t⟩ := fr
   simp only [] at g
   rcases zT g with ⟨rfl, g⟩ | ⟨rfl, g⟩
   ·have e := rB h3
    refine ⟨_, _, e, (hw _ _ ((e.get d).trans h3)).trans ?_, g⟩
    cases b <;> rfl
   ·have e := rB h3
    refine ⟨_, _, e, (hw _ _ ((e.get d).trans h3)).trans ?_, g⟩
    cases b <;> rfl
  ·exact ⟨false, fr, eW.refl fr, (hw fr _ h3).trans rfl, g⟩
  ·exact g.elim
noncomputable def xOps (all : List Oper) (l : List Oper) : Fr → St → (Fr → St → Prop) → Prop :=
 List.rec (motive := fun _ => Fr → St → (Fr → St → Prop) → Prop) (fun fr st K => K fr st)
  (fun o _ ih fr st K => tz all fr o.guard fun b fr => match b with
   | true => xOp P E o.op (evS fr) st fun s st => lq fr o.dst s fun fr => ih fr st K
   | false => lq fr o.dst (.tup []) fun fr => ih fr st K) l
theorem uT (hE : a7 P E) {ops : Array Oper} : ∀ {l : List Oper} {fr : Fr} {st : St} {K : Fr → St → Prop}, xOps P E ops.toList l fr st K → sI P ops l fr st K
 | [], fr, st, K, h => ops_nil h
 | o :: l, fr, st, K, h => by
  have h : tz ops.toList fr o.guard fun b fr => match b with
   | true => xOp P E o.op (evS fr) st fun s st => lq fr o.dst s fun fr => xOps P E ops.toList l fr st K
   | false => lq fr o.dst (.tup []) fun fr => xOps P E ops.toList l fr st K := h
  obtain ⟨b, fr1, h1, h2, g⟩ := wO h
  refine sI.eqv h1 ?_
  cases b with
  | true =>
   obtain ⟨s, st', h3, g⟩ := xOp_ok P E hE g
   obtain ⟨fr', h4, g⟩ := mo g
   exact ops_cons h2 (h3 o rfl) h4 (uT hE g)
  | false =>
   obtain ⟨fr', h4, g⟩ := mo g
   exact ops_skip h2 h4 (uT hE g)
end
attribute [local irreducible] W
def R (P : Program) (lo : Nat) (z : Code) (fr : Fr) (st : St) (K : Ex → Fr → St → Prop) : Prop :=
 ∃ x fr' st', (∀ Φ : Ex → Fr → St → Prop, Φ x fr' st' → W P lo z fr st Φ) ∧ K x fr' st'
structure dS (P : Program) (lo : Nat) (z : Code) (fr : Fr) (st : St) (K : Ex → Fr → St → Prop) : Prop where
 out : R P lo (.loop z) fr st K
structure sG (P : Program) (lo : Nat) (z : Code) (fr : Fr) (st : St) (K : Ex → Fr → St → Prop) : Prop where
 out : R P lo z fr st K
structure DrawR (P : Program) (lo : Nat) (id : Nat) (ops : Array Oper) (fr : Fr) (st : St) (K : Fr → St → Prop) : Prop where
 out : R P lo (.region id ops true) fr st fun x fr st => x = .normal ∧ K fr st
def w8 (k : Fr → St → Prop) (K : Ex → Fr → St → Prop) (x : Ex) (fr : Fr) (st : St) : Prop := match x with
 | .normal => k fr st
 | .exit j => K (.exit j) fr st
 | .ret => K .ret fr st
def vF (id : Nat) (K : Ex → Fr → St → Prop) (x : Ex) (fr : Fr) (st : St) : Prop := match x with
 | .normal => K .normal fr st
 | .exit j => match Nat.beq j id with
  | true => K .normal fr st
  | false => K (.exit j) fr st
 | .ret => K .ret fr st
section
variable {P : Program} {lo : Nat} {fr : Fr} {st : St} {K L : Ex → Fr → St → Prop}
theorem R.w {z : Code} (h : R P lo z fr st K) : W P lo z fr st K := by
 obtain ⟨x, fr', st', h1, h2⟩ := h
 exact h1 K h2
theorem R.mono {z : Code} (h : R P lo z fr st L) (hk : ∀ x fr' st', L x fr' st' → K x fr' st') : R P lo z fr st K := by
 obtain ⟨x, fr', st', h1, h2⟩ := h
 exact ⟨x, fr', st', h1, hk _ _ _ h2⟩
theorem R.seq {x y : Code} {k : Fr → St → Prop} (h : R P lo x fr st (w8 k K)) (hk : ∀ fr st, k fr st → R P lo y fr st K) : R P lo (.seq x y) fr st K := by
 obtain ⟨e, fr1, st1, h1, h2⟩ := h
 cases e with
 | normal =>
  obtain ⟨e2, fr2, st2, h3, h4⟩ := hk _ _ h2
  exact ⟨e2, fr2, st2, fun Φ hΦ => W.seq (h1 _ (h3 Φ hΦ)), h4⟩
 | exit j => exact ⟨_, fr1, st1, fun Φ hΦ => W.seq (h1 _ hΦ), h2⟩
 | ret => exact ⟨_, fr1, st1, fun Φ hΦ => W.seq (h1 _ hΦ), h2⟩
theorem R.block {id : Nat} {x : Code} (h : R P lo x fr st (vF id K)) : R P lo (.block id x) fr st K := by
 obtain ⟨e, fr1, st1, h1, h2⟩ := h
 cases e with
 | normal => exact ⟨.normal, fr1, st1, fun Φ hΦ => W.block (h1 _ hΦ), h2⟩
 | ret => exact ⟨.ret, fr1, st1, fun Φ hΦ => W.block (h1 _ hΦ), h2⟩
 | exit j =>
  unfold vF at h2
  simp only [] at h2
  split at h2
  ·rename_i hb
   have := Nat.eq_of_beq_eq_true hb
   exact ⟨.normal, fr1, st1, fun Φ hΦ => W.block (h1 _ (by show (if j = id then _ else _); rw [if_pos this]; exact hΦ)), h2⟩
  ·rename_i hb
   have : ¬ j = id := fun e => by rw [e, Nat.beq_refl] at hb; cases hb
   exact ⟨.exit j, fr1, st1, fun Φ hΦ => W.block (h1 _ (by show (if j = id then _ else _); rw [if_neg this]; exact hΦ)), h2⟩
theorem R.scope {x : Code} (h : R P lo x fr st K) : R P lo (.scope x) fr st K := by
 obtain ⟨e, fr1, st1, h1, h2⟩ := h
 exact ⟨e, fr1, st1, fun Φ hΦ => W.scope (h1 _ hΦ), h2⟩
theorem R.loop {x : Code} (h : R P lo x fr st (w8 (fun fr st => dS P lo x fr st K) K)) : R P lo (.loop x) fr st K := by
 obtain ⟨e, fr1, st1, h1, h2⟩ := h
 cases e with
 | normal =>
  obtain ⟨e2, fr2, st2, h3, h4⟩ := h2.out
  exact ⟨e2, fr2, st2, fun Φ hΦ => W.loop (h1 _ (h3 Φ hΦ)), h4⟩
 | exit j => exact ⟨_, fr1, st1, fun Φ hΦ => W.loop (h1 _ hΦ), h2⟩
 | ret => exact ⟨_, fr1, st1, fun Φ hΦ => W.loop (h1 _ hΦ), h2⟩
theorem R.less {z : Code} {fr1 : Fr} {st1 : St} (hf : FrLess st1.next fr1 fr) (hs : iF lo st1 st) (h : R P lo z fr1 st1 K) : R P lo z fr st K := by
 obtain ⟨x, fr', st', h1, h2⟩ := h
 exact ⟨x, fr', st', fun Φ hΦ => W.less hf hs (h1 Φ hΦ), h2⟩
theorem R.iG {z : Code} {fr1 : Fr} (hn : fr1.n = fr.n) (hf : ∀ t s, fr1.get t = some s → ∃ s', fr.get t = some s' ∧ ∀ c v, Den c s' v → Den c s v) (h : R P lo z fr1 st K) : R P lo z fr st K := by
 obtain ⟨x, fr', st', h1, h2⟩ := h
 exact ⟨x, fr', st', fun Φ hΦ => W.iG hn hf (h1 Φ hΦ), h2⟩
end
section
variable (P : Program) (E : Env) (lo : Nat)
noncomputable def xC (z : Code) : Fr → St → (Ex → Fr → St → Prop) → Prop :=
 Code.rec (motive := fun _ => Fr → St → (Ex → Fr → St → Prop) → Prop) (fun fr st K => K .normal fr st)
  (fun id ops d fr st K => match d with
   | true => DrawR P lo id ops fr st (K .normal)
   | false => xOps P E ops.toList ops.toList fr st (K .normal))
  (fun _ _ a b fr st K => a fr st (w8 (fun fr st => b fr st K) K))
  (fun x _ _ a b fr st K => got (evS fr x) fun v => asB v fun t => way t (a fr st K) (b fr st K))
  (fun id _ a fr st K => a fr st (vF id K))
  (fun z _ fr st K => dS P lo z fr st K)
  (fun f ps x y _ _ fr st K => sG P lo (.rangeFunc f ps x y) fr st K)
  (fun id fr st K => K (.exit id) fr st)
  (fun _ a fr st K => a fr st K)
  (fun _ fr st K => K .normal fr st)
  (fun _ _ _ _ => False)
  (fun fr st K => K .ret fr st)
  (fun _ _ _ _ => False) z
theorem gG (hE : a7 P E) : ∀ {z : Code} {fr : Fr} {st : St} {K : Ex → Fr → St → Prop}, xC P E lo z fr st K → R P lo z fr st K
 | .skip, fr, st, K, h => ⟨_, _, _, fun _ => W.skip, h⟩
 | .label _, fr, st, K, h => ⟨_, _, _, fun _ => W.label, h⟩
 | .exit id, fr, st, K, h => ⟨_, _, _, fun _ => W.exit, h⟩
 | .ret, fr, st, K, h => ⟨_, _, _, fun _ => W.ret, h⟩
 | .region id ops true, fr, st, K, h => by
  have h : DrawR P lo id ops fr st (K .normal) := h
  obtain ⟨x, fr', st', h1, h2, h3⟩ := h.out
  subst h2
  exact ⟨_, _, _, h1, h3⟩
 | .region id ops false, fr, st, K, h => by
  have h : xOps P E ops.toList ops.toList fr st (K .normal) := h
  obtain ⟨fr', st', h1, h2⟩ := uT P E hE h
  exact ⟨.normal, fr', st', fun Φ hΦ => W.ops ⟨fr', st', h1, hΦ⟩, h2⟩
 | .seq a b, fr, st, K, h => by
  have h : xC P E lo a fr st (w8 (fun fr st => xC P E lo b fr st K) K) := h
  exact R.seq (gG hE h) fun _ _ h => gG hE h
 | .cond x a b, fr, st, K, h => by
  have h : got (evS fr x) fun v => asB v fun t => way t (xC P E lo a fr st K) (xC P E lo b fr st K) := h
  obtain ⟨v, h1, g⟩ := aE h
  obtain ⟨t, e, g1⟩ := asB_ok g
  subst e
  rcases zT g1 with ⟨rfl, g2⟩ | ⟨rfl, g2⟩
  ·obtain ⟨x, fr', st', h2, h3⟩ := gG hE g2
   exact ⟨x, fr', st', fun Φ hΦ => W.cond h1 (fun _ => h2 Φ hΦ) (fun e => by cases e), h3⟩
  ·obtain ⟨x, fr', st', h2, h3⟩ := gG hE g2
   exact ⟨x, fr', st', fun Φ hΦ => W.cond h1 (fun e => by cases e) (fun _ => h2 Φ hΦ), h3⟩
 | .block id a, fr, st, K, h => by
  have h : xC P E lo a fr st (vF id K) := h
  exact R.block (gG hE h)
 | .scope a, fr, st, K, h => by
  have h : xC P E lo a fr st K := h
  exact R.scope (gG hE h)
 | .loop a, fr, st, K, h => dS.out h
 | .rangeFunc f ps a b, fr, st, K, h => sG.out h
 | .goto _, _, _, _, h => h.elim
 | .refuse _, _, _, _, h => h.elim
end
end Sv
namespace Sv
open Go Go.RowKit
noncomputable def lW (l : List SVal) : St → (List SVal → St → Prop) → Prop :=
 List.rec (motive := fun _ => St → (List SVal → St → Prop) → Prop) (fun st K => K [] st)
  (fun s _ ih st K => match s with
   | .az => ih st fun r st' => K (.lst false [] :: r) st'
   | .lst _ rows => ih st fun r st' => K (.lst false rows :: r) st'
   | .own k s => match st.look k with
    | some (.row m rows s' _) => yes (Nat.beq s' s) (fE st k (.row m rows s true) fun st' => ih st' fun r st'' => K (.lst false rows :: r) st'')
    | _ => False
   | .ptr k off => match st.look k with
    | some (.still l) => yes (eL l) (ih st fun r st' => K (.bA l off :: r) st')
    | _ => False
   | s => ih st fun r st' => K (s :: r) st') l
def Boxed (st st' : St) : Prop := ∀ k l, st.look k = some (.cells l) → st'.look k = some (.cells l)
theorem boxed_put {st : St} {k m s : Nat} {rows : List (List SVal)} {z y : Bool} (hk : st.look k = some (.row m rows s z)) : Boxed st (st.put k (.row m rows s y)) := by
 intro n l hn
 have hne : n ≠ k := fun e => by
  subst e
  rw [hk] at hn
  cases hn
 rw [look_eq] at hn ⊢
 show (if bN n st.ban = true then none else ba (st.put k _).heap n) = _
 rw [kG, if_neg hne]
 exact hn
theorem gg : ∀ {l : List SVal} {st : St} {K : List SVal → St → Prop}, lW l st K → ∃ l' st', FzL st l l' st' ∧ Boxed st st' ∧ K l' st'
 | [], st, K, h => ⟨_, _, .nil, fun _ _ h => h, h⟩
 | s :: r, st, K, h => by
  have h : match (generalizing := false) s with
   | .az => lW r st fun r st' => K (.lst false [] :: r) st'
   | .lst _ rows => lW r st fun r st' => K (.lst false rows :: r) st'
   | .own k s => match st.look k with
    | some (.row m rows s' _) => yes (Nat.beq s' s) (fE st k (.row m rows s true) fun st' => lW r st' fun r st'' => K (.lst false rows :: r) st'')
    | _ => False
   | .ptr k off => match st.look k with
    | some (.still l) => yes (eL l) (lW r st fun r st' => K (.bA l off :: r) st')
    | _ => False
   | s => lW r st fun r st' => K (s :: r) st' := h
  split at h
  ·obtain ⟨l', st', h1, h2, h3⟩ := gg h
   exact ⟨_, _, .az h1, h2, h3⟩
  ·obtain ⟨l', st', h1, h2, h3⟩ := gg h
   exact ⟨_, _, .lst h1, h2, h3⟩
  ·split at h
   ·rename_i hk
    obtain ⟨e, h4⟩ := bG h
    cases Nat.eq_of_beq_eq_true e
    obtain ⟨l', st', h1, h2, h3⟩ := gg (cM h4)
    exact ⟨_, _, .own hk h1, fun k l hl => h2 k l (boxed_put hk k l hl), h3⟩
   ·exact h.elim
  ·split at h
   ·rename_i hk
    obtain ⟨e, h4⟩ := bG h
    obtain ⟨l', st', h1, h2, h3⟩ := gg h4
    exact ⟨_, _, .still hk e h1, h2, h3⟩
   ·exact h.elim
  ·obtain ⟨l', st', h1, h2, h3⟩ := gg h
   exact ⟨_, _, .same h1, h2, h3⟩
mutual
noncomputable def fz1 : SVal → St → (SVal → St → Prop) → Prop
 | .az, st, K => K (.lst false []) st
 | .lst _ rows, st, K => K (.lst false rows) st
 | .own k s, st, K => match st.look k with
  | some (.row m rows s' _) => yes (Nat.beq s' s) (fE st k (.row m rows s true) fun st' => K (.lst false rows) st')
  | _ => False
 | .agg l, st, K => fzN l st fun l' st' => K (.agg l') st'
 | .bool b, st, K => K (.bool b) st
 | .int k n, st, K => K (.int k n) st
 | .str s, st, K => K (.str s) st
 | .nilPtr, st, K => K .nilPtr st
 | .eE, st, K => K .eE st
 | .dy, st, K => K .dy st
 | .nilIface, st, K => K .nilIface st
 | .ptr k off, st, K => match st.look k with
  | some (.cells l) => lW l st fun l' st1 => yes (eL l') (fE st1 k (.still l') fun st2 => K (.bA l' off) st2)
  | some (.still l) => yes (eL l) (K (.bA l off) st)
  | _ => False
 | .ec _ _ _ _, _, _ => False
 | .map _, _, _ => False
 | .bA row off, st, K => K (.bA row off) st
 | .func (.func f) x y, st, K => fzN x st fun x' st1 => fzN y st1 fun y' st2 => K (.func (.func f) x' y') st2
 | .func _ _ _, _, _ => False
 | .iface t v, st, K => K (.iface t v) st
 | .tup l, st, K => K (.tup l) st
noncomputable def fzN : List SVal → St → (List SVal → St → Prop) → Prop
 | [], st, K => K [] st
 | s :: r, st, K => fz1 s st fun s' st' => fzN r st' fun r' st'' => K (s' :: r') st''
end
theorem FzL.app {st st1 st2 : St} {a a' r r' : List SVal} (h : FzL st a a' st1) (k : FzL st1 r r' st2) : FzL st (a ++ r) (a' ++ r') st2 := by
 induction h with
 | nil => exact k
 | same _ ih => exact .same (ih k)
 | az _ ih => exact .az (ih k)
 | lst _ ih => exact .lst (ih k)
 | own h1 _ ih => exact .own h1 (ih k)
 | agg h1 _ _ ih => exact .agg h1 (ih k)
 | ptr h1 h2 h3 h4 _ _ ih => exact .ptr h1 h2 h3 h4 (ih k)
 | still h1 h2 _ ih => exact .still h1 h2 (ih k)
 | func h1 h2 _ _ _ ih => exact .func h1 h2 (ih k)
mutual
theorem fz1_ok : ∀ {s : SVal} {st : St} {K : SVal → St → Prop}, fz1 s st K → ∃ s' st', FzL st [s] [s'] st' ∧ K s' st'
 | .az, st, K, h => by
  unfold fz1 at h
  exact ⟨_, _, .az .nil, h⟩
 | .lst f rows, st, K, h => by
  unfold fz1 at h
  exact ⟨_, _, .lst .nil, h⟩
 | .own k s, st, K, h => by
  unfold fz1 at h
  split at h
  ·rename_i hk
   obtain ⟨h1, h3⟩ := bG h
   cases Nat.eq_of_beq_eq_true h1
   exact ⟨_, _, .own hk .nil, cM h3⟩
  ·exact h.elim
 | .agg l, st, K, h => by
  unfold fz1 at h
  obtain ⟨l', st', h1, h2⟩ := gw h
  exact ⟨_, _, .agg h1 .nil, h2⟩
 | .ptr k off, st, K, h => by
  unfold fz1 at h
  split at h
  ·rename_i hk
   obtain ⟨l', st1, h1, h2, h3⟩ := gg h
   obtain ⟨h4, h5⟩ := bG h3
   exact ⟨_, _, .ptr hk h1 (h2 _ _ hk) h4 .nil, cM h5⟩
  ·rename_i hk
   obtain ⟨h4, h5⟩ := bG h
   exact ⟨_, _, .still hk h4 .nil, h5⟩
  ·exact h.elim
 | .func fn x y, st, K, h => by
  cases fn <;> unfold fz1 at h
  case func f =>
   obtain ⟨x', st1, h1, h2⟩ := gw h
   obtain ⟨y', st2, h3, h4⟩ := gw h2
   exact ⟨_, _, .func h1 h3 .nil, h4⟩
  all_goals exact h.elim
 | .bool b, st, K, h => by
  unfold fz1 at h
  exact ⟨_, _, .same .nil, h⟩
 | .int k n, st, K, h => by
  unfold fz1 at h
  exact ⟨_, _, .same .nil, h⟩
 | .str s, st, K, h => by
  unfold fz1 at h
  exact ⟨_, _, .same .nil, h⟩
 | .nilPtr, st, K, h => by
  unfold fz1 at h
  exact ⟨_, _, .same .nil, h⟩
 | .eE, st, K, h => by
  unfold fz1 at h
  exact ⟨_, _, .same .nil, h⟩
 | .dy, st, K, h => by
  unfold fz1 at h
  exact ⟨_, _, .same .nil, h⟩
 | .nilIface, st, K, h => by
  unfold fz1 at h
  exact ⟨_, _, .same .nil, h⟩
 | .bA row off, st, K, h => by
  unfold fz1 at h
  exact ⟨_, _, .same .nil, h⟩
 | .iface t v, st, K, h => by
  unfold fz1 at h
  exact ⟨_, _, .same .nil, h⟩
 | .tup l, st, K, h => by
  unfold fz1 at h
  exact ⟨_, _, .same .nil, h⟩
 | .ec _ _ _ _, _, _, h => by
  unfold fz1 at h
  exact h.elim
 | .map _, _, _, h => by
  unfold fz1 at h
  exact h.elim
theorem gw : ∀ {l : List SVal} {st : St} {K : List SVal → St → Prop}, fzN l st K → ∃ l' st', FzL st l l' st' ∧ K l' st'
 | [], st, K, h => by
  unfold fzN at h
  exact ⟨_, _, .nil, h⟩
 | s :: r, st, K, h => by
  unfold fzN at h
  obtain ⟨s', st1, h1, h2⟩ := fz1_ok h
  obtain ⟨r', st2, h3, h4⟩ := gw h2
  exact ⟨_, _, h1.app h3, h4⟩
end
section
variable (P : Program) (E : Env)
noncomputable def resK (fr : Fr) (st : St) : List ResultVar → (List SVal → Prop) → Prop
 | [], K => K []
 | .tmp t :: l, K => got (fr.get t) fun s => resK fr st l fun ss => K (s :: ss)
 | .cell b t :: l, K => got (fr.get b) fun p => readK st p fun cs => got (rh E t cs) fun s => resK fr st l fun ss => K (s :: ss)
theorem kA {fr : Fr} {st : St} : ∀ {l : List ResultVar} {K : List SVal → Prop}, resK E fr st l K → ∃ ss, mb E fr st l ss ∧ K ss
 | [], K, h => ⟨_, .nil, h⟩
 | .tmp t :: l, K, h => by
  obtain ⟨s, h1, g⟩ := aE h
  obtain ⟨ss, h2, g⟩ := kA g
  exact ⟨_, .tmp h1 h2, g⟩
 | .cell b t :: l, K, h => by
  obtain ⟨p, h1, g⟩ := aE h
  obtain ⟨cs, h2, g⟩ := xN g
  obtain ⟨s, h3, g⟩ := aE g
  obtain ⟨ss, h4, g⟩ := kA g
  exact ⟨_, .cell h1 h2 (re h3) h4, g⟩
structure FzR (l : List SVal) (st : St) (K : List SVal → Prop) : Prop where
 out : ∃ l' st', FzL st l l' st' ∧ aw l' = true ∧ K l'
theorem cP {l : List SVal} {st : St} {K : List SVal → Prop} (h : fzN l st fun l' _ => aw l' = true ∧ K l') : FzR l st K :=
 ⟨gw h⟩
theorem mS {st : St} : ∀ l : List SVal, FzL st l l st
 | [] => .nil
 | _ :: r => .same (mS r)
theorem kS {l : List SVal} {st : St} {K : List SVal → Prop} (h : aw l = true) (k : K l) : FzR l st K :=
 ⟨l, st, mS l, h, k⟩
noncomputable def finK (rs : List ResultVar) (Ψ : SVal → Prop) (x : Ex) (fr : Fr) (st : St) : Prop := match x with
 | .exit _ => False
 | _ => resK E fr st rs fun ss => FzR ss st fun ss' => match ss' with
  | [v] => Ψ v
  | vs => Ψ (.tup vs)
noncomputable def sB : Nat → List SVal → Option (List (Nat × SVal))
 | _, [] => some []
 | i, s :: r => match sB (i + 1) r with
  | some t => some ((i, s) :: t)
  | none => none
theorem nj : ∀ {l : List SVal} {i : Nat} {t : List (Nat × SVal)}, sB i l = some t → t = argF i l
 | [], i, t, h => by cases h; rfl
 | s :: r, i, t, h => by
  unfold sB at h
  split at h
  ·rename_i t' h'
   cases h
   rw [nj h']
   rfl
  ·cases h
noncomputable def xF (fn : Func) (args : List SVal) (Ψ : SVal → Prop) : Prop := match fn with
 | { ntmps := n, results := rs, body := some b, .. } => yes (Nat.ble args.length n) <| got (sB 0 args) fun t => xC P E 0 b ⟨n, t⟩ ⟨[], 0, 0, [], []⟩ (finK E rs.toList Ψ)
 | _ => False
def Has (f : FuncId) (args : List SVal) (Ψ : SVal → Prop) : Prop := ∃ s, iY P f args s ∧ Ψ s
theorem wb {ss : List SVal} (h : aw ss = true) : closed (lI ss) = true := by
 match ss, h with
 | [], _ => rfl
 | [v], h => exact (Bool.and_eq_true .. ▸ h : _ ∧ _).1
 | a :: b :: r, h => exact h
theorem finK_ok {rs : List ResultVar} {Ψ : SVal → Prop} {x : Ex} {fr : Fr} {st : St} (h : finK E rs Ψ x fr st) : oW x = true ∧ ∃ ss, mb E fr st rs ss ∧ ∃ ss' st2, FzL st ss ss' st2 ∧ aw ss' = true ∧ Ψ (lI ss') := by
 unfold finK at h
 split at h
 ·exact h.elim
 ·rename_i hx
  obtain ⟨ss, h1, g⟩ := kA E h
  obtain ⟨ss', st2, h2, hcl, g⟩ := g.out
  refine ⟨?_, ss, h1, ss', st2, h2, hcl, ?_⟩
  ·cases x with
   | exit j => exact (hx j rfl).elim
   | normal => rfl
   | ret => rfl
  ·split at g
   ·exact g
   ·rename_i hv
    match ss', hv, g with
    | [], _, g => exact g
    | [v], hv, _ => exact (hv v rfl).elim
    | a :: b :: r, _, g => exact g
theorem has_of (hE : a7 P E) {f : FuncId} {fn : Func} (hf : E.funcs.get f = some fn) {args : List SVal} {Ψ : SVal → Prop} (hc : aw args = true) (h : xF P E fn args Ψ) : Has P f args Ψ := by
 unfold xF at h
 split at h
 ·obtain ⟨h1, g⟩ := bG h
  obtain ⟨t, h2, g⟩ := aE g
  cases nj h2
  obtain ⟨x, fr', st', h3, h4⟩ := gG P E 0 hE g
  obtain ⟨h5, ss, h6, ss', st2, h7, hcl, h8⟩ := finK_ok E h4
  refine ⟨lI ss', pure_of hE hf rfl hc ?_ ?_, h8⟩
  ·unfold entry
   rw [show args.length + (_ - args.length) = _ from Nat.add_sub_of_le (Nat.le_of_ble_eq_true h1)]
   exact h3 _ ⟨h5, ss, h6, ss', st2, h7, rfl⟩
  ·exact wb hcl
 ·exact h.elim
theorem call_pure {f : FuncId} {args args' : List SVal} {s : SVal} {st : St} {K : SVal → St → Prop} (h : iY P f args' s) (ha : cg args = args') (k : K s st) : dI P f args st K :=
 ⟨s, st, fun _ _ _ _ _ _ _ ho hc hf hev he => sem_pure ho hc hf hev (he ▸ ha) h, k⟩
theorem call_frz {f : FuncId} {args args' : List SVal} {s : SVal} {st : St} {K : SVal → St → Prop} (h : iY P f args' s) (k : fzN args st fun l st' => l = args' ∧ K s st') : dI P f args st K := by
 obtain ⟨l', st', h1, h2, h3⟩ := gw k
 subst h2
 exact ⟨s, st', fun _ _ _ _ _ _ _ ho hc hf hev he => vf ho hc hf hev (he ▸ h1) h, h3⟩
end
structure Span where
 lo : Int
 hi : Int
structure Edge where
 lo : Int
 hi : Int
 to : Int
structure Stt where
 acc : Bool
 aL : List Edge
structure bW where
 null : Bool
 fls : Bool
 tru : Bool
 ints : List Span
 bK : List Span
 strs : List Stt
structure aT (V : Type) where
 items : List V
 rest : List V
structure Fld (V : Type) where
 label : List UInt8
 fe : Int
 val : V
structure Cls (V : Type) where
 set : List Stt
 val : V
structure aI (V : Type) where
 fields : List (Fld V)
 aA : List (Cls V)
structure Vlu (V : Type) where
 any : Bool
 sc : bW
 lists : List (aT V)
 structs : List (aI V)
structure Vl (V : Type) where
 v : Vlu V
 d : Vlu V
def VT : Nat → Type
 | 0 => Empty
 | n + 1 => Vl (VT n)
def b6 (s : Span) : List SVal := [.int .i64 s.lo, .int .i64 s.hi]
def ck (e : Edge) : List SVal := [.int .u8 e.lo, .int .u8 e.hi, .int .i64 e.to]
def fu (s : Stt) : List SVal := [.bool s.acc, .lst false (s.aL.map ck)]
def aC (l : List Stt) : SVal := .lst false (l.map fu)
def aQ (l : List Span) : SVal := .lst false (l.map b6)
def bS (s : bW) : List SVal := [.bool s.null, .bool s.fls, .bool s.tru, aQ s.ints, aQ s.bK, aC s.strs]
section
variable {V : Type} (e : V → List SVal)
def aO (c : aT V) : List SVal := [.lst false (c.items.map e), .lst false (c.rest.map e)]
def cC (f : Fld V) : List SVal := .str f.label :: .int .i64 f.fe :: e f.val
def cQ (k : Cls V) : List SVal := aC k.set :: e k.val
def aF (c : aI V) : List SVal := [.lst false (c.fields.map (cC e)), .lst false (c.aA.map (cQ e))]
def bM (v : Vlu V) : List SVal := [.bool v.any, .bool v.sc.null, .bool v.sc.fls, .bool v.sc.tru, aQ v.sc.ints, aQ v.sc.bK, aC v.sc.strs, .lst false (v.lists.map (aO e)), .lst false (v.structs.map (aF e))]
def eVl (v : Vl V) : List SVal := [.bool v.v.any, .bool v.v.sc.null, .bool v.v.sc.fls, .bool v.v.sc.tru, aQ v.v.sc.ints, aQ v.v.sc.bK, aC v.v.sc.strs, .lst false (v.v.lists.map (aO e)), .lst false (v.v.structs.map (aF e)),
 .bool v.d.any, .bool v.d.sc.null, .bool v.d.sc.fls, .bool v.d.sc.tru, aQ v.d.sc.ints, aQ v.d.sc.bK, aC v.d.sc.strs, .lst false (v.d.lists.map (aO e)), .lst false (v.d.structs.map (aF e))]
end
def eVT : (n : Nat) → VT n → List SVal
 | 0, v => Empty.elim v
 | n + 1, v => eVl (eVT n) v
theorem closedR_of {rows : List (List SVal)} (h : ∀ r ∈ rows, aw r = true) : aJ rows = true := by
 induction rows with
 | nil => rfl
 | cons r rows ih =>
  rw [aJ, h r (.head _), ih fun x hx => h x (.tail _ hx)]
  rfl
class Cl {α : Type} (f : α → List SVal) : Prop where
 cl : ∀ x, aw (f x) = true
section
variable {α : Type} (f : α → List SVal) [h : Cl f]
theorem cl (x : α) : aw (f x) = true := h.cl x
theorem clR (l : List α) : aJ (l.map f) = true :=
 closedR_of fun r hr => by
  obtain ⟨x, _, rfl⟩ := List.mem_map.1 hr
  exact h.cl x
theorem clS (b : Bool) (l : List α) : closed (.lst b (l.map f)) = true := clR f l
theorem clA (x : α) : closed (.agg (f x)) = true := h.cl x
theorem clA1 (x : α) : aw [.agg (f x)] = true := by rw [aw, clA f x]; rfl
theorem clA2 {β : Type} (g : β → List SVal) [k : Cl g] (x : α) (y : β) : aw [.agg (f x), .agg (g y)] = true := by rw [aw, clA f x, clA1 g y]; rfl
theorem b7 (m : Nat) (l : List α) : nbR m (l.map f) = true := fh m _ (clR f l)
theorem cz (m : Nat) (x : α) : nbL m (f x) = true := aW m _ (h.cl x)
end
instance : Cl b6 := ⟨fun _ => rfl⟩
instance : Cl ck := ⟨fun _ => rfl⟩
instance : Cl fu := ⟨fun s => by simp only [fu, aw, closed, clR ck, Bool.and_self]⟩
theorem bB (l : List Span) : closed (aQ l) = true := clR b6 l
theorem bR (l : List Stt) : closed (aC l) = true := clR fu l
instance : Cl bS := ⟨fun s => by simp only [bS, aw, closed, bB, bR, Bool.and_self]⟩
section
variable {V : Type} {e : V → List SVal} [h : Cl e]
instance : Cl (aO e) := ⟨fun c => by simp only [aO, aw, closed, clR e, Bool.and_self]⟩
instance : Cl (cC e) := ⟨fun f => by simp only [cC, aw, closed, cl e, Bool.and_self]⟩
instance : Cl (cQ e) := ⟨fun f => by simp only [cQ, aw, bR, cl e, Bool.and_self]⟩
instance : Cl (aF e) := ⟨fun c => by simp only [aF, aw, closed, clR (cC e), clR (cQ e), Bool.and_self]⟩
instance : Cl (bM e) := ⟨fun v => by simp only [bM, aw, closed, bB, bR, clR (aO e), clR (aF e), Bool.and_self]⟩
instance : Cl (eVl e) := ⟨fun v => by simp only [eVl, aw, closed, bB, bR, clR (aO e), clR (aF e), Bool.and_self]⟩
end
theorem cl_vt : ∀ (n : Nat) (v : VT n), aw (eVT n v) = true
 | 0, v => Empty.elim v
 | n + 1, v => haveI : Cl (eVT n) := ⟨cl_vt n⟩; cl (eVl (eVT n)) v
instance (n : Nat) : Cl (eVT n) := ⟨cl_vt n⟩
def dX : bW := ⟨false, false, false, [], [], []⟩
def zVlu (V : Type) : Vlu V := ⟨false, dX, [], []⟩
theorem brt {b : Bool} {p q : Prop} (h : b = true) (h1 : p) : @Bool.rec (fun _ => Prop) q p b := by
 subst h; exact h1
theorem brf {b : Bool} {p q : Prop} (h : b = false) (h2 : q) : @Bool.rec (fun _ => Prop) q p b := by
 subst h; exact h2
section
variable {c : Prop} [Decidable c] {p q : Prop}
theorem bkd (h1 : c → p) (h2 : ¬ c → q) : @Bool.rec (fun _ => Prop) q p (decide c) := brk (fun h => h1 (of_decide_eq_true h)) fun h => h2 (of_decide_eq_false h)
theorem bdt (h : c) (h1 : p) : @Bool.rec (fun _ => Prop) q p (decide c) := brt (decide_eq_true h) h1
theorem bdf (h : ¬ c) (h2 : q) : @Bool.rec (fun _ => Prop) q p (decide c) := brf (decide_eq_false h) h2
theorem bkn (h1 : ¬ c → p) (h2 : c → q) : @Bool.rec (fun _ => Prop) q p (!decide c) := by
 by_cases h : c
 ·exact brf (by rw [decide_eq_true h]; rfl) (h2 h)
 ·exact brt (by rw [decide_eq_false h]; rfl) (h1 h)
theorem bnt (h : ¬ c) (h1 : p) : @Bool.rec (fun _ => Prop) q p (!decide c) := bkn (fun _ => h1) fun h' => (h h').elim
theorem bnf (h : c) (h2 : q) : @Bool.rec (fun _ => Prop) q p (!decide c) := bkn (fun h' => (h' h).elim) fun _ => h2
end
section
variable {b : Bool} {p q : Prop}
theorem bkm (h1 : b = false → p) (h2 : b = true → q) : @Bool.rec (fun _ => Prop) q p (!b) := by
 cases b with
 | true => exact h2 rfl
 | false => exact h1 rfl
theorem bmt (h : b = false) (h1 : p) : @Bool.rec (fun _ => Prop) q p (!b) := by subst h; exact h1
theorem bmf (h : b = true) (h2 : q) : @Bool.rec (fun _ => Prop) q p (!b) := by subst h; exact h2
end
structure Fits (lo : Nat) (fr : Fr) (st : St) (fr1 : Fr) (st1 : St) : Prop where
 fr : FrLess st1.next fr1 fr
 st : iF lo st1 st
structure np {ι : Type} (P : Program) (lo : Nat) (F : ι → Fr) (S : ι → St) (m : ι → Nat) (i : ι) (fr : Fr) (st : St) : Prop where
 out : ∃ j, m j < m i ∧ ∀ z K, R P lo z (F j) (S j) K → R P lo z fr st K
theorem back_go {ι : Type} {P : Program} {lo : Nat} {F : ι → Fr} {S : ι → St} {m : ι → Nat} {i : ι} {fr : Fr} {st : St} (j : ι) (h : m j < m i) (k : Fits lo fr st (F j) (S j)) : np P lo F S m i fr st := ⟨j, h, fun _ _ g => R.less k.fr k.st g⟩
theorem back_via {ι : Type} {P : Program} {lo : Nat} {F : ι → Fr} {S : ι → St} {m : ι → Nat} {i : ι} {fr fr' : Fr} {st st' : St} (g : ∀ z K, R P lo z fr' st' K → R P lo z fr st K) (h : np P lo F S m i fr' st') : np P lo F S m i fr st := by
 obtain ⟨j, h1, h2⟩ := h.out
 exact ⟨j, h1, fun z K r => g z K (h2 z K r)⟩
def loopK {ι : Type} (P : Program) (lo : Nat) (F : ι → Fr) (S : ι → St) (m : ι → Nat) (i : ι) (K : Ex → Fr → St → Prop) (x : Ex) (fr : Fr) (st : St) : Prop := match x with
 | .normal => np P lo F S m i fr st
 | .exit id => K (.exit id) fr st
 | .ret => K .ret fr st
theorem yl {ι : Type} {P : Program} {lo : Nat} {z : Code} {K : Ex → Fr → St → Prop} (F : ι → Fr) (S : ι → St) (m : ι → Nat) (h : ∀ i, R P lo z (F i) (S i) (loopK P lo F S m i K)) : ∀ (n : Nat) (i : ι), m i < n → R P lo (.loop z) (F i) (S i) K
 | 0, i, hi => by omega
 | n + 1, i, hi => by
  refine R.loop (R.mono (h i) fun x fr st hx => ?_)
  cases x with
  | normal =>
   obtain ⟨j, h1, h2⟩ := hx.out
   exact ⟨h2 _ _ (yl F S m h n j (by omega))⟩
  | exit id => exact hx
  | ret => exact hx
theorem loop_go {ι : Type} {P : Program} {E : Env} (hE : a7 P E) {lo : Nat} {z : Code} {fr : Fr} {st : St} {K : Ex → Fr → St → Prop} (F : ι → Fr) (S : ι → St) (m : ι → Nat) (i : ι) (h0 : Fits lo fr st (F i) (S i)) (h : ∀ i, xC P E lo z (F i) (S i) (loopK P lo F S m i K)) : dS P lo z fr st K :=
 ⟨R.less h0.fr h0.st (yl F S m (fun i => gG P E lo hE (h i)) _ i (Nat.lt_succ_self _))⟩
def subF (m : Nat) (t : List (Nat × SVal)) : List (Nat × SVal) → Prop
 | [] => True
 | p :: r => ba t p.1 = some p.2 ∧ nb m p.2 = true ∧ subF m t r
theorem pD {m : Nat} {t : List (Nat × SVal)} : ∀ {t1 : List (Nat × SVal)}, subF m t t1 → ∀ k s, ba t1 k = some s → ba t k = some s ∧ nb m s = true
 | [], _, k, s, h => by cases h
 | p :: r, ⟨h1, h2, h3⟩, k, s, h => by
  rw [bI] at h
  split at h
  ·rename_i e
   cases h
   subst e
   exact ⟨h1, h2⟩
  ·exact pD h3 k s h
def jy (m : Nat) (t : Hp) : Hp → Prop
 | [] => True
 | p :: r => ba t p.1 = some p.2 ∧ nbO m p.2 = true ∧ p.1 < m ∧ jy m t r
theorem eo {m : Nat} {t : Hp} : ∀ {t1 : Hp}, jy m t t1 → ∀ k o, ba t1 k = some o → ba t k = some o ∧ nbO m o = true ∧ k < m
 | [], _, k, s, h => by cases h
 | p :: r, ⟨h1, h2, h3, h4⟩, k, s, h => by
  rw [bI] at h
  split at h
  ·rename_i e
   cases h
   subst e
   exact ⟨h1, h2, h3⟩
  ·exact eo h4 k s h
theorem fits0 {n next next1 : Nat} {t t1 : List (Nat × SVal)} {h h1 : Hp} (hf : subF next1 t t1) (hh : jy next1 h h1) (hn : next1 ≤ next) : Fits 0 ⟨n, t⟩ ⟨h, next, 0, [], []⟩ ⟨n, t1⟩ ⟨h1, next1, 0, [], []⟩ where
 fr := ⟨rfl, pD hf⟩
 st := {
  next := hn
  low := Nat.zero_le _
  ban := rfl
  mark := rfl
  log := rfl
  bans := fun k hk => by cases hk
  heap := eo hh
  same := fun k hk => by omega }
theorem eW.symm {a b : Fr} (h : eW a b) : eW b a := ⟨h.n.symm, fun t => (h.get t).symm⟩
theorem eW.trans {a b c : Fr} (h : eW a b) (k : eW b c) : eW a c := ⟨h.n.trans k.n, fun t => (h.get t).trans (k.get t)⟩
theorem eW.ev {a b : Fr} (h : eW a b) : evS a = evS b := by
 funext x
 cases x with
 | tmp t => exact h.get t
 | const v => rfl
 | global g => rfl
 | func f => rfl
theorem eW.want {a b : Fr} (h : eW a b) (all : List Oper) (g : Option (Nat × Bool)) : jt all a g = jt all b g := by
 cases g with
 | none => rfl
 | some p =>
  show bnd (all[p.1]?) (fun q => bnd q.dst fun d => bnd (a.get d) fun v => fA p.2 v) = bnd (all[p.1]?) (fun q => bnd q.dst fun d => bnd (b.get d) fun v => fA p.2 v)
  have : (fun d => bnd (a.get d) fun v => fA p.2 v) = fun d => bnd (b.get d) fun v => fA p.2 v := by
   funext d
   rw [h.get d]
  rw [this]
theorem eW.put {a b a' : Fr} (h : eW a b) {d : Option Nat} {s : SVal} (hp : nJ a d s = some a') : ∃ b', nJ b d s = some b' ∧ eW a' b' := by
 cases d with
 | none =>
  cases gb hp
  exact ⟨b, rfl, h⟩
 | some d =>
  have h1 := dZ (fb hp)
  have hb : nJ b (some d) s = some ⟨b.n, (d, s) :: b.t⟩ := by
   show whn (Nat.ble (Nat.succ d) b.n) _ = _
   rw [show Nat.ble (Nat.succ d) b.n = true from Nat.ble_eq_true_of_le (h.n ▸ h1.1)]
   rfl
  refine ⟨_, hb, ?_⟩
  have h2 := dZ (fb hb)
  exact ⟨h1.2.1.trans (h.n.trans h2.2.1.symm), fun t => by rw [h1.2.2 t, h2.2.2 t, h.get t]⟩
theorem eU.eqv {P : Program} {ops : Array Oper} {before : List Nat} {sup : List Tch} {l : List Oper} {k : Nat} {a a' : Fr} {st st' : St} {acc acc' : List Tch} (h : eU P ops before sup l k a st acc a' st' acc') : ∀ {b : Fr}, eW a b → ∃ b', eW a' b' ∧ eU P ops before sup l k b st acc b' st' acc' := by
 induction h with
 | nil => exact fun h => ⟨_, h, .nil⟩
 | skip h1 h2 _ ih =>
  intro b hb
  obtain ⟨b1, h3, h4⟩ := hb.put h2
  obtain ⟨b', h5, h6⟩ := ih h4
  exact ⟨b', h5, .skip ((hb.want _ _).symm.trans h1) h3 h6⟩
 | cons h1 h2 h3 _ ih =>
  intro b hb
  obtain ⟨b1, h4, h5⟩ := hb.put h3
  obtain ⟨b', h6, h7⟩ := ih h5
  exact ⟨b', h6, .cons ((hb.want _ _).symm.trans h1) (hb.ev ▸ h2) h4 h7⟩
theorem Ent.eqv {lo : Nat} {D : List Deferred} {B : Nat} {c : Ctx} {a b : Fr} {st : St} {x : Act} {w : World} (h : Ent lo D B c a st x w) (e : eW b a) : Ent lo D B c b st x w :=
 ⟨h.rep, h.wf, h.dom, ⟨h.fr.size.trans e.n.symm, fun t s hs => h.fr.get t s (e.get t ▸ hs), h.fr.defers⟩, h.mks, h.base, h.low, h.mark⟩
theorem W.outEq {P : Program} {lo : Nat} {z : Code} {fr a a' : Fr} {st st' : St} {x : Ex} (h : ∀ Φ : Ex → Fr → St → Prop, Φ x a st' → W P lo z fr st Φ) (e : eW a' a) : ∀ Φ : Ex → Fr → St → Prop, Φ x a' st' → W P lo z fr st Φ := by
 intro Φ hΦ ro B D c w y he hro Q hq
 refine h (fun x' f s => x' = x ∧ f = a ∧ s = st') ⟨rfl, rfl, rfl⟩ he hro fun x' f s D' c' y' w' hx he' hs ht hn => ?_
 obtain ⟨rfl, rfl, rfl⟩ := hx
 exact hq x' a' s D' c' y' w' hΦ (he'.eqv e) hs ht (e.n.trans hn)
noncomputable def wI (P : Program) (E : Env) (before : List Nat) (sup : List Tch) (all : List Oper) (l : List Oper) : Nat → Fr → St → List Tch → (Fr → St → List Tch → Prop) → Prop :=
 List.rec (motive := fun _ => Nat → Fr → St → List Tch → (Fr → St → List Tch → Prop) → Prop) (fun _ fr st acc K => K fr st acc)
  (fun o _ ih k fr st acc K => tz all fr o.guard fun b fr => match b with
   | true => match st with
    | ⟨heap, next, mark, log, ban⟩ => xOp P E o.op (evS fr) ⟨heap, next, next, [], hJ before k acc (dE before k next sup ban)⟩ fun s st1 => match st1 with
     | ⟨heap1, next1, _, log1, _⟩ => lq fr o.dst s fun fr => ih (Nat.succ k) fr ⟨heap1, next1, mark, below mark log1 ++ log, ban⟩ (ko k next next1 log1 acc) K
   | false => lq fr o.dst (.tup []) fun fr => ih (Nat.succ k) fr st acc K) l
theorem pX {P : Program} {E : Env} (hE : a7 P E) {before : List Nat} {sup : List Tch} {ops : Array Oper} : ∀ {l : List Oper} {k : Nat} {fr : Fr} {st : St} {acc : List Tch} {K : Fr → St → List Tch → Prop}, wI P E before sup ops.toList l k fr st acc K →
  ∃ a a' st' acc', eU P ops before sup l k fr st acc a st' acc' ∧ eW a' a ∧ K a' st' acc'
 | [], k, fr, st, acc, K, h => ⟨_, _, _, _, .nil, eW.refl _, h⟩
 | o :: l, k, fr, st, acc, K, h => by
  have h : tz ops.toList fr o.guard fun b fr => match b with
   | true => match st with
    | ⟨heap, next, mark, log, ban⟩ => xOp P E o.op (evS fr) ⟨heap, next, next, [], hJ before k acc (dE before k next sup ban)⟩ fun s st1 => match st1 with
     | ⟨heap1, next1, _, log1, _⟩ => lq fr o.dst s fun fr => wI P E before sup ops.toList l (Nat.succ k) fr ⟨heap1, next1, mark, below mark log1 ++ log, ban⟩ (ko k next next1 log1 acc) K
   | false => lq fr o.dst (.tup []) fun fr => wI P E before sup ops.toList l (Nat.succ k) fr st acc K := h
  obtain ⟨b, fr1, h1, h2, g⟩ := wO h
  cases b with
  | true =>
   obtain ⟨heap, next, mark, log, ban⟩ := st
   obtain ⟨s, st1, h3, g⟩ := xOp_ok P E hE g
   obtain ⟨heap1, next1, mark1, log1, ban1⟩ := st1
   obtain ⟨fr', h4, g⟩ := mo g
   obtain ⟨a, a', st', acc', h5, h6, h7⟩ := pX hE g
   have h8 : eU P ops before sup (o :: l) k fr1 ⟨heap, next, mark, log, ban⟩ acc a st' acc' := .cons h2 (h3 o rfl) h4 h5
   obtain ⟨b', h9, h10⟩ := h8.eqv h1
   exact ⟨b', a', st', acc', h10, h6.trans h9, h7⟩
  | false =>
   obtain ⟨fr', h4, g⟩ := mo g
   obtain ⟨a, a', st', acc', h5, h6, h7⟩ := pX hE g
   have h8 : eU P ops before sup (o :: l) k fr1 st acc a st' acc' := .skip h2 h4 h5
   obtain ⟨b', h9, h10⟩ := h8.eqv h1
   exact ⟨b', a', st', acc', h10, h6.trans h9, h7⟩
theorem draw_go {P : Program} {E : Env} (hE : a7 P E) {lo id : Nat} {ops : Array Oper} {fr : Fr} {st : St} {K : Fr → St → Prop} (before : List Nat) (sup : List Tch) (hb : (Region.before ops).toList = before) (hrel : relB ops.toList fr.n = true)
  (h : wI P E before sup ops.toList ops.toList 0 fr st [] fun fr st acc => fk before sup acc = true ∧ K fr st) : DrawR P lo id ops fr st K := by
 subst hb
 obtain ⟨a, a', st', acc', h1, h2, h3, h4⟩ := pX hE h
 exact ⟨.normal, a', st', W.outEq (fun Φ hΦ => W.draw' hE.mixed sup hrel ⟨a, st', acc', h1, h3, hΦ⟩) h2, rfl, h4⟩
def ta (σ : Nat → Nat) : Fn → Fn
 | .yield k => .yield (σ k)
 | f => f
mutual
def ren (σ : Nat → Nat) : SVal → SVal
 | .ptr k off => .ptr (σ k) off
 | .ec k s i off => .ec (σ k) s i off
 | .own k s => .own (σ k) s
 | .map k => .map (σ k)
 | .bA row off => .bA (bV σ row) off
 | .lst f rows => .lst f (jh σ rows)
 | .func fn x y => .func (ta σ fn) (bV σ x) (bV σ y)
 | .iface t v => .iface t (ren σ v)
 | .agg l => .agg (bV σ l)
 | .tup l => .tup (bV σ l)
 | .bool b => .bool b
 | .int k n => .int k n
 | .str s => .str s
 | .nilPtr => .nilPtr
 | .az => .az
 | .dy => .dy
 | .eE => .eE
 | .nilIface => .nilIface
def bV (σ : Nat → Nat) : List SVal → List SVal
 | [] => []
 | s :: r => ren σ s :: bV σ r
def jh (σ : Nat → Nat) : List (List SVal) → List (List SVal)
 | [] => []
 | row :: r => bV σ row :: jh σ r
end
theorem gJ (σ : Nat → Nat) : ∀ l : List SVal, (bV σ l).length = l.length
 | [] => rfl
 | _ :: r => congrArg (· + 1) (gJ σ r)
theorem dt (σ : Nat → Nat) : ∀ l : List (List SVal), (jh σ l).length = l.length
 | [] => rfl
 | _ :: r => congrArg (· + 1) (dt σ r)
theorem xG {σ : Nat → Nat} {l : List (List SVal)} : jh σ l = [] ↔ l = [] := by
 cases l with
 | nil => exact ⟨fun _ => rfl, fun _ => rfl⟩
 | cons a r => exact ⟨(fun h => by cases h), (fun h => by cases h)⟩
section
variable {c d : Ctx} {σ : Nat → Nat} {m : Nat} (hρ : ∀ k, k < m → c.ρ (σ k) = d.ρ k) (hfz : c.fz = d.fz)
include hρ hfz
mutual
theorem Den.ren : ∀ (s : SVal) (v : Value), nb m s = true → (Den c (ren σ s) v ↔ Den d s v)
 | .bool _, _, _ => Iff.rfl
 | .int _ _, _, _ => Iff.rfl
 | .str _, _, _ => Iff.rfl
 | .nilPtr, _, _ => Iff.rfl
 | .az, _, _ => Iff.rfl
 | .dy, _, _ => Iff.rfl
 | .eE, _, _ => Iff.rfl
 | .nilIface, _, _ => Iff.rfl
 | .ptr k off, v, h => by
  unfold Sv.ren Den
  rw [hρ k (of_decide_eq_true h)]
 | .ec k s i off, v, h => by
  unfold Sv.ren Den
  rw [hρ k (of_decide_eq_true h)]
 | .own k s, v, h => by
  unfold Sv.ren Den
  rw [hρ k (of_decide_eq_true h)]
 | .map k, v, h => by
  unfold Sv.ren Den
  rw [hρ k (of_decide_eq_true h)]
 | .bA row off, v, h => by
  unfold Sv.ren Den
  exact ⟨fun ⟨b, base, h1, h2⟩ => ⟨b, base, h1, (bF.ren b row base h).1 h2⟩, fun ⟨b, base, h1, h2⟩ => ⟨b, base, h1, (bF.ren b row base h).2 h2⟩⟩
 | .lst full rows, v, h => by
  unfold Sv.ren Den
  rw [xG, dt]
  constructor
  ·rintro (h1 | ⟨b, base, size, cap, h1, h2, h3, h4⟩)
   ·exact .inl h1
   ·exact .inr ⟨b, base, size, cap, h1, h2, h3, (bp.ren b size rows base h).1 h4⟩
  ·rintro (h1 | ⟨b, base, size, cap, h1, h2, h3, h4⟩)
   ·exact .inl h1
   ·exact .inr ⟨b, base, size, cap, h1, h2, h3, (bp.ren b size rows base h).2 h4⟩
 | .func fn x y, v, h => by
  rw [nb, Bool.and_eq_true, Bool.and_eq_true] at h
  have h1 := fun vs => aM.ren x vs h.1.2
  have h2 := fun vs => aM.ren y vs h.2
  cases fn
  case yield k =>
   unfold Sv.ren ta Den
   show (∃ b, c.ρ (σ k) = some (Loc.box b) ∧ _) ↔ ∃ b, d.ρ k = some (Loc.box b) ∧ _
   rw [hρ k (of_decide_eq_true h.1.1)]
  all_goals
   unfold Sv.ren ta Den
   exact ⟨fun ⟨xs, ys, g1, g2, g3⟩ => ⟨xs, ys, (h1 xs).1 g1, (h2 ys).1 g2, g3⟩, fun ⟨xs, ys, g1, g2, g3⟩ => ⟨xs, ys, (h1 xs).2 g1, (h2 ys).2 g2, g3⟩⟩
 | .iface t s, v, h => by
  unfold Sv.ren Den
  exact ⟨fun ⟨u, h1, h2⟩ => ⟨u, (Den.ren s u h).1 h1, h2⟩, fun ⟨u, h1, h2⟩ => ⟨u, (Den.ren s u h).2 h1, h2⟩⟩
 | .agg l, v, h => by
  unfold Sv.ren Den
  exact ⟨fun ⟨u, h1, h2⟩ => ⟨u, (aM.ren l u h).1 h1, h2⟩, fun ⟨u, h1, h2⟩ => ⟨u, (aM.ren l u h).2 h1, h2⟩⟩
 | .tup l, v, h => by
  unfold Sv.ren Den
  exact ⟨fun ⟨u, h1, h2⟩ => ⟨u, (aM.ren l u h).1 h1, h2⟩, fun ⟨u, h1, h2⟩ => ⟨u, (aM.ren l u h).2 h1, h2⟩⟩
theorem aM.ren : ∀ (l : List SVal) (vs : List Value), nbL m l = true → (aM c (bV σ l) vs ↔ aM d l vs)
 | [], vs, _ => Iff.rfl
 | s :: r, vs, h => by
  rw [nbL, Bool.and_eq_true] at h
  unfold bV aM
  exact ⟨fun ⟨v, l, h1, h2, h3⟩ => ⟨v, l, (Den.ren s v h.1).1 h1, (aM.ren r l h.2).1 h2, h3⟩, fun ⟨v, l, h1, h2, h3⟩ => ⟨v, l, (Den.ren s v h.1).2 h1, (aM.ren r l h.2).2 h2, h3⟩⟩
theorem bF.ren (b : Nat) : ∀ (row : List SVal) (i : Nat), nbL m row = true → (bF c b (bV σ row) i ↔ bF d b row i)
 | [], _, _ => Iff.rfl
 | s :: r, i, h => by
  rw [nbL, Bool.and_eq_true] at h
  unfold bV bF
  rw [hfz]
  exact ⟨fun ⟨⟨u, h1, h0, h2⟩, h3⟩ => ⟨⟨u, h1, h0, (Den.ren s u h.1).1 h2⟩, (bF.ren b r (i + 1) h.2).1 h3⟩, fun ⟨⟨u, h1, h0, h2⟩, h3⟩ => ⟨⟨u, h1, h0, (Den.ren s u h.1).2 h2⟩, (bF.ren b r (i + 1) h.2).2 h3⟩⟩
theorem bp.ren (b size : Nat) : ∀ (rows : List (List SVal)) (i : Nat), nbR m rows = true → (bp c b size (jh σ rows) i ↔ bp d b size rows i)
 | [], _, _ => Iff.rfl
 | row :: r, i, h => by
  rw [nbR, Bool.and_eq_true] at h
  unfold jh bp
  rw [gJ]
  exact ⟨fun ⟨h1, h2, h3⟩ => ⟨h1, (bF.ren b row i h.1).1 h2, (bp.ren b size r (i + size) h.2).1 h3⟩, fun ⟨h1, h2, h3⟩ => ⟨h1, (bF.ren b row i h.1).2 h2, (bp.ren b size r (i + size) h.2).2 h3⟩⟩
end
end
end Sv
namespace Sv
open Go Go.RowKit
def qJ (σ : Nat → Nat) : List (SVal × SVal) → List (SVal × SVal)
 | [] => []
 | p :: r => (ren σ p.1, ren σ p.2) :: qJ σ r
theorem oG (σ : Nat → Nat) : ∀ l : List (SVal × SVal), (qJ σ l).length = l.length
 | [] => rfl
 | _ :: r => congrArg (· + 1) (oG σ r)
theorem qI (σ : Nat → Nat) : ∀ (l : List (SVal × SVal)) (i : Nat), (qJ σ l)[i]? = (l[i]?).map fun p => (ren σ p.1, ren σ p.2)
 | [], _ => by simp [qJ]
 | p :: r, 0 => by simp [qJ]
 | p :: r, i + 1 => by simpa [qJ] using qI σ r i
theorem qH (σ : Nat → Nat) : ∀ (l : List SVal) (i : Nat), (bV σ l)[i]? = (l[i]?).map (ren σ)
 | [], _ => by simp [bV]
 | p :: r, 0 => by simp [bV]
 | p :: r, i + 1 => by simpa [bV] using qH σ r i
theorem qG (σ : Nat → Nat) : ∀ (l : List (List SVal)) (i : Nat), (jh σ l)[i]? = (l[i]?).map (bV σ)
 | [], _ => by simp [jh]
 | p :: r, 0 => by simp [jh]
 | p :: r, i + 1 => by simpa [jh] using qG σ r i
def s9 (σ : Nat → Nat) : List (Nat × SVal) → List (Nat × SVal)
 | [] => []
 | p :: r => (p.1, ren σ p.2) :: s9 σ r
theorem qE (σ : Nat → Nat) (k : Nat) : ∀ t : List (Nat × SVal), ba (s9 σ t) k = (ba t k).map (ren σ)
 | [] => rfl
 | p :: r => by
  show ba ((p.1, ren σ p.2) :: s9 σ r) k = _
  rw [bI, bI, qE σ k r]
  by_cases h : p.1 = k
  ·rw [if_pos h, if_pos h]; rfl
  ·rw [if_neg h, if_neg h]
def ef (σ : Nat → Nat) : aV → aV
 | .cells l => .cells (bV σ l)
 | .still l => .still (bV σ l)
 | .row m rows s z => .row m (jh σ rows) s z
 | .map es => .map (qJ σ es)
 | .loop r => .loop ⟨⟨r.fr.n, s9 σ r.fr.t⟩, r.ps, r.assign, r.body, r.state, r.ji⟩
 | .jl g l => .jl g (bV σ l)
def plainO : aV → Bool
 | .loop _ => true
 | _ => true
theorem dG.ren {c d : Ctx} {σ : Nat → Nat} {m : Nat} (hρ : ∀ k, k < m → c.ρ (σ k) = d.ρ k) (hfz : c.fz = d.fz) {o : aV} (hp : plainO o = true) (h : nbO m o = true) (l : Loc) (w : World) : dG c (ef σ o) l w ↔ dG d o l w := by
  cases o with
  | loop r =>
    cases l with
    | row => exact Iff.rfl
    | box b =>
      have hs : ∀ tmps, kd c ⟨r.fr.n, s9 σ r.fr.t⟩ tmps ↔ kd d r.fr tmps := fun tmps => by
        constructor
        · rintro ⟨h1, h2⟩
          refine ⟨h1, fun t s hs => ?_⟩
          obtain ⟨v, h3, h4⟩ := h2 t (Sv.ren σ s) (by
            show ba (s9 σ r.fr.t) t = _
            rw [qE, show ba r.fr.t t = some s from hs]; rfl)
          exact ⟨v, h3, (Den.ren hρ hfz _ _ (pK h hs)).1 h4⟩
        · rintro ⟨h1, h2⟩
          refine ⟨h1, fun t s hs => ?_⟩
          have hs : ba (s9 σ r.fr.t) t = some s := hs
          rw [qE] at hs
          cases hq : ba r.fr.t t with
          | none => rw [hq] at hs; cases hs
          | some q =>
            rw [hq] at hs
            cases hs
            obtain ⟨v, h3, h4⟩ := h2 t q hq
            exact ⟨v, h3, (Den.ren hρ hfz _ _ (pK h hq)).2 h4⟩
      show (∃ x, _ ∧ pf c _ x) ↔ ∃ x, _ ∧ pf d r x
      constructor
      · rintro ⟨x, h1, h2⟩
        exact ⟨x, h1, ⟨(hs _).1 h2.oB, h2.ps, h2.assign, h2.body, h2.state, h2.ji, h2.one, h2.two⟩⟩
      · rintro ⟨x, h1, h2⟩
        exact ⟨x, h1, ⟨(hs _).2 h2.oB, h2.ps, h2.assign, h2.body, h2.state, h2.ji, h2.one, h2.two⟩⟩
  | jl g cs =>
    cases l with
    | box => exact Iff.rfl
    | row ob st sz u =>
      exact ⟨fun ⟨h0, h3, a, e, f, h4, h1, h2⟩ => ⟨h0, h3, a, e, f, h4, h1, (aM.ren hρ hfz cs _ h).1 h2⟩, fun ⟨h0, h3, a, e, f, h4, h1, h2⟩ => ⟨h0, h3, a, e, f, h4, h1, (aM.ren hρ hfz cs _ h).2 h2⟩⟩
  | cells cs =>
    cases l with
    | row => exact Iff.rfl
    | box b =>
      show (∃ arr e, _ ∧ aM c (bV σ cs) _ ∧ ∀ i v, c.fz b i ≠ some v) ↔ ∃ arr e, _ ∧ aM d cs _ ∧ ∀ i v, d.fz b i ≠ some v
      rw [hfz]
      exact ⟨fun ⟨a, e, h1, h2, h3⟩ => ⟨a, e, h1, (aM.ren hρ hfz cs _ h).1 h2, h3⟩, fun ⟨a, e, h1, h2, h3⟩ => ⟨a, e, h1, (aM.ren hρ hfz cs _ h).2 h2, h3⟩⟩
  | still cs =>
    cases l with
    | row => exact Iff.rfl
    | box b =>
      show (∃ arr e, _ ∧ aM c (bV σ cs) _ ∧ ∀ (i : Nat) (v : Value), arr[i]? = some v → c.fz b i = some v) ↔ ∃ arr e, _ ∧ aM d cs _ ∧ ∀ (i : Nat) (v : Value), arr[i]? = some v → d.fz b i = some v
      rw [hfz]
      exact ⟨fun ⟨a, e, h1, h2, h3⟩ => ⟨a, e, h1, (aM.ren hρ hfz cs _ h).1 h2, h3⟩, fun ⟨a, e, h1, h2, h3⟩ => ⟨a, e, h1, (aM.ren hρ hfz cs _ h).2 h2, h3⟩⟩
  | map es =>
    cases l with
    | row => exact Iff.rfl
    | box b =>
      show (∃ a e, _ ∧ kj c (qJ σ es) _) ↔ ∃ a e, _ ∧ kj d es _
      have : ∀ l, kj c (qJ σ es) l ↔ kj d es l := fun l => by
        unfold kj
        rw [oG]
        constructor
        · rintro ⟨h1, h2⟩
          refine ⟨h1, fun i p hp => ?_⟩
          obtain ⟨n1, n2⟩ := pL h (List.mem_of_getElem? hp)
          obtain ⟨e, h3, h4, h5⟩ := h2 i (Sv.ren σ p.1, Sv.ren σ p.2) (by rw [qI, hp]; rfl)
          exact ⟨e, h3, (Den.ren hρ hfz _ _ n1).1 h4, (Den.ren hρ hfz _ _ n2).1 h5⟩
        · rintro ⟨h1, h2⟩
          refine ⟨h1, fun i p hp => ?_⟩
          rw [qI] at hp
          cases hq : es[i]? with
          | none => rw [hq] at hp; cases hp
          | some q =>
            rw [hq] at hp
            cases hp
            obtain ⟨n1, n2⟩ := pL h (List.mem_of_getElem? hq)
            obtain ⟨e, h3, h4, h5⟩ := h2 i q hq
            exact ⟨e, h3, (Den.ren hρ hfz _ _ n1).2 h4, (Den.ren hρ hfz _ _ n2).2 h5⟩
      exact ⟨fun ⟨a, e, h1, h2⟩ => ⟨a, e, h1, (this _).1 h2⟩, fun ⟨a, e, h1, h2⟩ => ⟨a, e, h1, (this _).2 h2⟩⟩
  | row m' rows s z =>
    cases l with
    | box => exact Iff.rfl
    | row ob st sz u =>
      have hel : ∀ arr, dq c (jh σ rows) sz arr ↔ dq d rows sz arr := fun arr => by
        unfold dq
        constructor
        · intro h1 i row hr
          obtain ⟨h2, h3⟩ := h1 i (bV σ row) (by rw [qG, hr]; rfl)
          have hn := pI h (List.mem_of_getElem? hr)
          refine ⟨by rw [gJ] at h2; exact h2, fun j s hs => ?_⟩
          obtain ⟨v, h4, h5, h6⟩ := h3 j (Sv.ren σ s) (by rw [qH, hs]; rfl)
          exact ⟨v, h4, h5, (Den.ren hρ hfz _ _ (pJ hn (List.mem_of_getElem? hs))).1 h6⟩
        · intro h1 i row hr
          rw [qG] at hr
          cases hq : rows[i]? with
          | none => rw [hq] at hr; cases hr
          | some q =>
            rw [hq] at hr
            cases hr
            obtain ⟨h2, h3⟩ := h1 i q hq
            have hn := pI h (List.mem_of_getElem? hq)
            refine ⟨by rw [gJ]; exact h2, fun j s hs => ?_⟩
            rw [qH] at hs
            cases ht : q[j]? with
            | none => rw [ht] at hs; cases hs
            | some t =>
              rw [ht] at hs
              cases hs
              obtain ⟨v, h4, h5, h6⟩ := h3 j t ht
              exact ⟨v, h4, h5, (Den.ren hρ hfz _ _ (pJ hn (List.mem_of_getElem? ht))).2 h6⟩
      have hin : ∀ b arr e cap, RowIn c (jh σ rows) z b sz u w arr e cap ↔ RowIn d rows z b sz u w arr e cap := fun b arr e cap =>
        ⟨fun h1 => ⟨by rw [← dt σ rows]; exact h1.val, h1.cells, h1.size, by rw [← dt σ rows]; exact h1.fits, (hel arr).1 h1.elems, fun i v hv => by rw [← dt σ rows]; exact h1.fz i v (by rw [hfz]; exact hv)⟩,
         fun h1 => ⟨by rw [dt σ rows]; exact h1.val, h1.cells, h1.size, by rw [dt σ rows]; exact h1.fits, (hel arr).2 h1.elems, fun i v hv => by rw [dt σ rows]; exact h1.fz i v (by rw [← hfz]; exact hv)⟩⟩
      cases ob with
      | none =>
        show (st = s ∧ sz = m' ∧ jh σ rows = [] ∧ _) ↔ (st = s ∧ sz = m' ∧ rows = [] ∧ _)
        rw [xG]
      | some b =>
        exact ⟨fun ⟨h1, h2, a, e, cap, h3⟩ => ⟨h1, h2, a, e, cap, (hin _ _ _ _).1 h3⟩, fun ⟨h1, h2, a, e, cap, h3⟩ => ⟨h1, h2, a, e, cap, (hin _ _ _ _).2 h3⟩⟩
def pn : Nat → List aV → Hp
 | _, [] => []
 | i, o :: r => (i, o) :: pn (i + 1) r
theorem gu : ∀ (l : List aV) (i n : Nat), ba (pn i l) n = if i ≤ n then l[n - i]? else none
 | [], i, n => by split <;> rfl
 | o :: r, i, n => by
  rw [pn, bI, gu r (i + 1) n]
  by_cases e : i = n
  ·subst e; simp
  ·rw [if_neg e]
   by_cases h : i ≤ n
   ·rw [if_pos (by omega), if_pos h]
    have : n - i = (n - (i + 1)) + 1 := by omega
    rw [this]; simp
   ·rw [if_neg (by omega), if_neg h]
def eZ (objs : List aV) : St := ⟨pn 0 objs, objs.length, 0, [], []⟩
theorem dx (objs : List aV) (n : Nat) : (eZ objs).look n = objs[n]? := by
 show ba (pn 0 objs) n = _
 rw [gu, if_pos (Nat.zero_le _)]
 rfl
structure sJ (P : Program) (f : FuncId) (objs : List aV) (args : List SVal) (s : SVal) (objs' : List aV) : Prop where
 sem : fB P f args (eZ objs) s (eZ objs')
 len : objs'.length = objs.length
 po : ∀ o ∈ objs, plainO o = true ∧ nbO objs.length o = true
 po' : ∀ o ∈ objs', plainO o = true ∧ nbO objs.length o = true
 na : nbL objs.length args = true
 ns : nb objs.length s = true
noncomputable def fD (σ : Nat → Nat) : List Nat → List aV → St → St
 | k :: ks, o :: os, st => fD σ ks os (st.put k (ef σ o))
 | _, _, st => st
theorem kF {st : St} {k : Nat} {o o1 : aV} (hk : st.look k = some o1) (n : Nat) : (st.put k o).look n = if n = k then some o else st.look n := by
 have hb : bN k st.ban = false := by
  rw [look_eq] at hk
  cases hb : bN k st.ban with
  | false => rfl
  | true => rw [hb] at hk; cases hk
 rw [look_eq, look_eq]
 show (if bN n st.ban = true then none else ba (st.put k o).heap n) = _
 rw [kG]
 by_cases e : n = k
 ·subst e
  rw [hb, if_pos rfl, if_pos rfl]
  rfl
 ·rw [if_neg e, if_neg e]
theorem kE {σ : Nat → Nat} : ∀ {ks : List Nat} {os : List aV} {st : St}, ks.length = os.length → ks.Nodup → (∀ k ∈ ks, ∃ o, st.look k = some o) →
  Sta st (fD σ ks os st) ∧ (fD σ ks os st).next = st.next ∧ (∀ n, n ∉ ks → (fD σ ks os st).look n = st.look n) ∧ ∀ (i k : Nat) (o : aV), ks[i]? = some k → os[i]? = some o → (fD σ ks os st).look k = some (ef σ o)
 | [], [], st, _, _, _ => ⟨Sta.refl _, rfl, fun _ _ => rfl, fun i k o h _ => by simp at h⟩
 | [], _ :: _, st, h, _, _ => by simp at h
 | _ :: _, [], st, h, _, _ => by simp at h
 | k :: ks, o :: os, st, hl, hn, hk => by
  obtain ⟨o1, h1⟩ := hk k (.head _)
  rw [List.nodup_cons] at hn
  have hlk := kF (o := ef σ o) h1
  obtain ⟨g1, g2, g3, g4⟩ := kE (σ := σ) (ks := ks) (os := os) (st := st.put k (ef σ o)) (by simpa using hl) hn.2 fun n hmem => by
   rw [hlk]
   split
   ·exact ⟨_, rfl⟩
   ·exact hk n (.tail _ hmem)
  refine ⟨(cL _ h1).trans g1, g2, fun n hmem => ?_, fun i n o' hi ho => ?_⟩
  ·rw [List.mem_cons, not_or] at hmem
   show (fD σ ks os (st.put k (ef σ o))).look n = _
   rw [g3 n hmem.2, hlk, if_neg hmem.1]
  ·show (fD σ ks os (st.put k (ef σ o))).look n = _
   cases i with
   | zero =>
    simp at hi ho
    subst hi ho
    rw [g3 k hn.1, hlk, if_pos rfl]
   | succ i => exact g4 i n o' (by simpa using hi) (by simpa using ho)
end Sv
