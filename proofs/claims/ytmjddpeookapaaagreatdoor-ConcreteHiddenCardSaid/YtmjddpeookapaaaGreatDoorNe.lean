/- For ConcreteHidden: values: canonical forms. -/
import Derived.Test.YtmjddpeookapaaaGreatDoorNd
import Derived.Test.YtmjddpeookapaaaGreatDoorMh
import Derived.Test.YtmjddpeookapaaaGreatDoorMj
import Derived.Test.YtmjddpeookapaaaGreatDoorMk
set_option linter.unusedVariables false
set_option linter.unusedSimpArgs false
set_option linter.unusedSectionVars false
namespace Go.Proofs.YtmjddpeookapaaaGreatDoor
open Sv
theorem visB_le {d : Nat} (h : d ≤ 4) : gV d ≤ 1000000000 := by
 rcases d with _ | _ | _ | _ | _ | d
 all_goals first | omega | decide
theorem walkV_tot {d : Nat} (hd : d ≤ 4) {v : Vlu Va} (h : SmV d v) : Tot (wP v) fun _ => True := by
 have := visB_le hd
 unfold wP
 exact (p9 18 d ⟨0, 0, false⟩ v 1 0 h (by omega) (by omega) (by omega) ⟨by show (0 : Int) ≤ 0; omega, by show (0 : Int) ≤ ((0 : Nat) : Int); omega⟩ (by omega)).mono fun _ _ => trivial
theorem iK {d : Nat} (hd : d ≤ 4) {v : Vlu Va} (h : SmV d v) : Tot (jz v) fun _ => True := by
 unfold jz
 exact an (walkV_tot hd h) fun _ _ => ah trivial
theorem soundV_tot {d : Nat} (hd : d ≤ 4) {x : Va} (h : SmA d x) : Tot (nB x) fun _ => True := by
 unfold nB
 exact an (iK hd h.1) fun _ _ => aq (fun _ => iK hd h.2) fun _ => ah trivial
theorem yR {α : Type} {g : α → α → Option Bool} {b : List α} : ∀ {r : List α} {i : Nat}, (∀ x ∈ r, ∀ y ∈ b, Tot (g x y) fun _ => True) → i + r.length = b.length → Tot (iA g b r i) fun _ => True
 | [], i, _, _ => ah trivial
 | x :: r, i, hg, h => by
  rw [List.length_cons] at h
  have e1 : ((i : Int) + 1) = ((i + 1 : Nat) : Int) := by omega
  unfold iA
  rw [e1]
  exact aP (by omega) (by omega) fun y hy hm => an (hg x (List.mem_cons_self ..) y hm) fun t _ => aq (fun _ => yR (fun x hx => hg x (List.mem_cons_of_mem _ hx)) (by omega)) fun _ => ah trivial
theorem rH {α : Type} {g : α → α → Option Bool} {a b : List α} (hg : ∀ x ∈ a, ∀ y ∈ b, Tot (g x y) fun _ => True) (ha : a.length ≤ 1000000000) : Tot (jm g a b) fun _ => True := by
 unfold jm
 refine aq (fun h => ar ha ?_) fun _ => ah trivial
 exact yR (r := a) (i := 0) hg (by omega)
theorem samSc_tot {k n : Nat} (hn : n ≤ 1000000000) (hk : k ≤ 1000) {a b : bW} (ha : SB k n a) : Tot (xx a b) fun _ => True := by
 have h1 := ha.i.1
 have h2 := ha.f.1
 unfold xx
 repeat' first | exact ah trivial | exact (nH ha.a hn).mono fun _ _ => trivial | refine an (jP (by omega)) fun _ _ => ?_ | refine aq (fun _ => ?_) fun _ => ?_
def TR {β : Type} (P : Va → Prop) (rec : Vlu Va → Vlu Va → Option β) : Prop := ∀ x y, P x → P y → Tot (rec x.v y.v) (fun _ => True) ∧ Tot (rec x.d y.d) fun _ => True
theorem TR.of {β : Type} {rec : Vlu Va → Vlu Va → Option β} {d : Nat} (h : ∀ e, d = e + 1 → ∀ a b : Vlu Va, SmV e a → SmV e b → Tot (rec a b) fun _ => True) : TR (SmP d) rec := by
 intro x y hx hy
 cases d with
 | zero => exact hx.elim
 | succ e => exact ⟨h e rfl _ _ hx.1 hy.1, h e rfl _ _ hx.2 hy.2⟩
section
variable {P : Va → Prop} {rec : Vlu Va → Vlu Va → Option Bool}
theorem kz (hr : TR P rec) {x y : Va} (hx : P x) (hy : P y) : Tot (oD rec x y) fun _ => True := by
 unfold oD
 exact an (hr x y hx hy).1 fun _ _ => aq (fun _ => (hr x y hx hy).2) fun _ => ah trivial
theorem samSt_tot (hr : TR P rec) {x y : aI Va} (hx : SmS P x) (hy : SmS P y) : Tot (xw rec x y) fun _ => True := by
 have h1 := hx.fl
 have h2 := hx.kl
 unfold xw
 refine an (rH (fun f hf g hg => ?_) (by omega)) fun _ _ => aq (fun _ => rH (fun f hf g hg => ?_) (by omega)) fun _ => ah trivial
 ·unfold samF1
  exact aq (fun _ => aq (fun _ => kz hr (hx.f f hf) (hy.f g hg)) fun _ => ah trivial) fun _ => ah trivial
 ·unfold samC1
  exact an (nH (hx.ab f hf) (by omega)) fun _ _ => aq (fun _ => kz hr (hx.k f hf) (hy.k g hg)) fun _ => ah trivial
theorem xy (hr : TR P rec) {b : List (aI Va)} (hb : ∀ c ∈ b, SmS P c) : ∀ {r : List (aI Va)} {i : Nat}, (∀ c ∈ r, SmS P c) → i + r.length = b.length → Tot (samS rec b r i) fun _ => True
 | [], _, _, _ => ah trivial
 | x :: r, i, h, e => by
  rw [List.length_cons] at e
  have e1 : ((i : Int) + 1) = ((i + 1 : Nat) : Int) := by omega
  unfold samS
  rw [e1]
  exact aP (by omega) (by omega) fun y _ hy => an (samSt_tot hr (h x (List.mem_cons_self ..)) (hb y hy)) fun c _ => aq (fun _ => xy hr hb (fun c hc => h c (List.mem_cons_of_mem _ hc)) (by omega)) fun _ => ah trivial
theorem xz (hr : TR P rec) {sa sb : List (aI Va)} (ha : ∀ c ∈ sa, SmS P c) (hb : ∀ c ∈ sb, SmS P c) (hl : sa.length = sb.length) (h3 : sa.length ≤ 3) {b : List (aT Va)} (hB : ∀ c ∈ b, SmL P c) : ∀ {r : List (aT Va)} {i : Nat}, (∀ c ∈ r, SmL P c) → i + r.length = b.length → Tot (samL rec sa sb b r i) fun _ => True
 | [], _, _, _ => ar (by omega) (xy hr hb (r := sa) (i := 0) ha (by omega))
 | x :: r, i, h, e => by
  rw [List.length_cons] at e
  have e1 : ((i : Int) + 1) = ((i + 1 : Nat) : Int) := by omega
  have hx := h x (List.mem_cons_self ..)
  have h1 := hx.il
  unfold samL
  rw [e1]
  refine aP (by omega) (by omega) fun y _ hy => ?_
  have h2 := (hB y hy).il
  refine ar (by omega) (ar (by omega) (aq (fun _ => an (eG hx) fun p ⟨p1, p2⟩ => an (eG (hB y hy)) fun q ⟨q1, q2⟩ => ?_) fun _ => ah trivial))
  exact an (rH (fun a ha b hb => kz hr (p2 a ha) (q2 b hb)) (by omega)) fun _ _ => aq (fun _ => xz hr ha hb hl h3 hB (fun c hc => h c (List.mem_cons_of_mem _ hc)) (by omega)) fun _ => ah trivial
end
theorem qC : ∀ {n d : Nat} {a b : Vlu Va}, SmV d a → SmV d b → d < n → Tot (vt n a b) fun _ => True
 | 0, d, a, b, _, _, h => by omega
 | n + 1, d, a, b, ha, hb, h => by
  have hr : TR (SmP d) (vt n) := TR.of fun e he a b h1 h2 => qC h1 h2 (by omega)
  have ca := ha.c
  have cb := hb.c
  have h1 := ca.ll
  have h2 := ca.sl
  have h3 := cb.ll
  have h4 := cb.sl
  unfold vt
  refine aq (fun _ => an (samSc_tot (by omega) (by omega) ca.sc) fun _ _ => aq (fun _ => ar (by omega) (ar (by omega) (aq (fun h5 => ar (by omega) (ar (by omega) (aq (fun h6 => ar (by omega) ?_) fun _ => ah trivial))) fun _ => ah trivial))) fun _ => ah trivial) fun _ => ah trivial
  exact xz hr ca.s cb.s (by omega) (by omega) cb.l (r := a.lists) (i := 0) ca.l (by omega)
theorem nG {d : Nat} (hd : d ≤ 4) {x y : Va} (hx : SmA d x) (hy : SmA d y) : Tot (oC x y) fun _ => True :=
 kz (P := SmA d) (fun x y hx hy => ⟨qC hx.1 hy.1 (by unfold yK; omega), qC hx.2 hy.2 (by unfold yK; omega)⟩) hx hy
theorem tr (d : Nat) : SmV d zV := SmV.of ⟨(hU 5 8).sb, by show (0 : Nat) ≤ 3; omega, by show (0 : Nat) ≤ 3; omega, fun c hc => (by cases hc), fun c hc => (by cases hc)⟩
theorem zI (d : Nat) : SmA d zVa := ⟨tr d, tr d⟩
theorem zVa_smP {d : Nat} (h : ∃ y, SmP d y) : SmP d zVa := by
 cases d with
 | zero => exact h.elim fun _ h => h
 | succ d => exact zI d
theorem item_tot {d : Nat} {c : aT Va} (h : SmL (SmP d) c) (i : Int) (hex : ∃ y, SmP d y) : Tot (item c i) fun r => SmP d r.1 := by
 have h1 := h.il
 have h2 := h.rl
 have hz := zVa_smP hex
 unfold item
 exact aq (fun _ => ar (by omega) (aq (fun _ => aP (by omega) (by omega) fun x _ hx => ah (h.i x hx)) fun _ => ar (by omega) (aq (fun _ => aP (by omega) (by omega) fun x _ hx => ah (h.r x hx)) fun _ => ah hz))) fun _ => ah hz
theorem zD {w : List UInt8} {i : Int} (h0 : 0 ≤ i) (h1 : i < w.length) : ∀ es : List Sv.Edge, Tot (wF w i es) fun p => ∀ t, p = some t → ∃ e ∈ es, e.to = t
 | [] => ah fun t h => by cases h
 | e :: r => by
  have ih : Tot (wF w i r) fun p => ∀ t, p = some t → ∃ e' ∈ e :: r, e'.to = t := (zD h0 h1 r).mono fun p hp t ht => by
   obtain ⟨e', he, e2⟩ := hp t ht
   exact ⟨e', List.mem_cons_of_mem _ he, e2⟩
  unfold wF
  exact aP h0 h1 fun b _ _ => aq (fun _ => aq (fun _ => ah fun t ht => by cases ht; exact ⟨e, List.mem_cons_self .., rfl⟩) fun _ => ih) fun _ => ih
theorem zC {l : List Stt} {m : Nat} (h : AB m l) (hw : WF l) {w : List UInt8} : ∀ {n i : Nat} {s : Int}, i + n = w.length → 0 ≤ s → s < l.length → Tot (accL l w n i s) fun _ => True
 | 0, i, s, _, h1, h2 => aP h1 h2 fun _ _ _ => ah trivial
 | n + 1, i, s, h0, h1, h2 => by
  have e1 : ((i : Int) + 1) = ((i + 1 : Nat) : Int) := by omega
  unfold accL
  rw [e1]
  refine aP h1 h2 fun x _ hx => ?_
  have := h.row x hx
  refine ar (by omega) (an (zD (by omega) (by omega) x.aL) fun p hp => ?_)
  cases p with
  | none => exact ah trivial
  | some t =>
   obtain ⟨e, he, e2⟩ := hp t rfl
   have := (hw x hx).one e he
   exact zC h hw (by omega) (by omega) (by omega)
theorem accA_tot {l : List Stt} {m : Nat} (h : AB m l) (hm : m ≤ 1000000000) {w : List UInt8} (hw : w.length ≤ 1000000000) : Tot (accA l w) fun _ => True := by
 have := h.len
 unfold accA
 refine ar (by omega) (aq (fun _ => ah trivial) fun h0 => an (wf_tot h hm) fun ok hok => aq (fun h1 => ar hw ?_) fun _ => ah trivial)
 exact zC h (hok h1) (n := w.length) (i := 0) (s := 0) (by omega) (by omega) (by omega)
theorem wW {d : Nat} {c : aI Va} (h : SmS (SmP d) c) {w : List UInt8} (hw : w.length ≤ 60) (hex : ∃ y, SmP d y) : Tot (view c w) fun r => SmP d r.1 := by
 have h1 := h.fl
 have h2 := h.kl
 have hz := zVa_smP hex
 have k1 : ∀ ks : List (Cls Va), (∀ k ∈ ks, AB 15000 k.set) → (∀ k ∈ ks, SmP d k.val) → Tot (qc w ks) fun r => SmP d r.1 := fun ks => by
  induction ks with
  | nil => intro _ _; exact ah hz
  | cons k r ih =>
   intro a b
   unfold qc
   exact an (accA_tot (a k (List.mem_cons_self ..)) (by omega) (by omega)) fun _ _ => aq (fun _ => ah (b k (List.mem_cons_self ..))) fun _ => ih (fun k hk => a k (List.mem_cons_of_mem _ hk)) fun k hk => b k (List.mem_cons_of_mem _ hk)
 have k2 : ∀ fs : List (Fld Va), (∀ f ∈ fs, SmP d f.val) → Tot (qd w c.aA fs) fun r => SmP d r.1 := fun fs => by
  induction fs with
  | nil => intro _; exact ar (by omega) (k1 _ h.ab h.k)
  | cons f r ih =>
   intro a
   unfold qd
   exact aq (fun _ => ah (a f (List.mem_cons_self ..))) fun _ => ih fun f hf => a f (List.mem_cons_of_mem _ hf)
 unfold view
 exact ar (by omega) (k2 _ h.f)
section
variable {α : Type}
theorem uj {g : α → Option Bool} : ∀ {l : List α} {i : Nat}, (∀ x ∈ l, Tot (g x) fun _ => True) → Tot (ir g l i) fun k => k = -1 ∨ (i : Int) ≤ k ∧ k < i + l.length
 | [], i, _ => ah (.inl rfl)
 | x :: r, i, h => by
  have e1 : ((i : Int) + 1) = ((i + 1 : Nat) : Int) := by omega
  unfold ir
  rw [e1]
  refine an (h x (List.mem_cons_self ..)) fun c _ => aq (fun _ => ah (.inr (by rw [List.length_cons]; omega))) fun _ => (uj fun x hx => h x (List.mem_cons_of_mem _ hx)).mono fun k hk => ?_
  rw [List.length_cons]
  omega
theorem yz {g : α → Option Bool} {l : List α} (h : ∀ x ∈ l, Tot (g x) fun _ => True) (hl : l.length ≤ 1000000000) : Tot (tg g l) fun k => k = -1 ∨ 0 ≤ k ∧ k < l.length := by
 unfold tg
 exact ar hl ((uj (i := 0) h).mono fun k hk => by omega)
theorem y6 {is : α → α → Option Bool} {a b : List α} (h : ∀ x ∈ a, ∀ y ∈ b, Tot (is x y) fun _ => True) (ha : a.length ≤ 1000000000) (hb : b.length ≤ 1000000000) : Tot (y7 is a b) fun _ => True := by
 have key : ∀ l : List α, (∀ x ∈ l, ∀ y ∈ b, Tot (is x y) fun _ => True) → Tot (tj is b l) fun _ => True := fun l => by
  induction l with
  | nil => intro _; exact ah trivial
  | cons x r ih =>
   intro h
   unfold tj conF
   exact an (an (yz (h x (List.mem_cons_self ..)) hb) fun _ _ => ah trivial) fun _ (_ : True) => aq (fun _ => ih fun x hx => h x (List.mem_cons_of_mem _ hx)) fun _ => ah trivial
 unfold y7
 exact ar ha (key a h)
end
section
variable {d : Nat} {rec : Vlu Va → Vlu Va → Option Bool}
theorem mH (hr : TR (SmP d) rec) {x y : Va} (hx : SmP d x) (hy : SmP d y) : Tot (yo rec x y) fun _ => True := by
 unfold yo
 exact an (hr x y hx hy).1 fun _ _ => aq (fun _ => (hr x y hx hy).2) fun _ => ah trivial
theorem vG (hr : TR (SmP d) rec) {a b : aT Va} (ha : SmL (SmP d) a) (hb : SmL (SmP d) b) (hl : 0 < a.rest.length → 0 < b.rest.length) : ∀ {r : List Va} {i : Int}, (∀ x ∈ r, SmP d x) → Tot (lbL rec a b r i) fun _ => True
 | [], _, _ => by
  have h1 := ha.rl
  unfold lbL lbE
  exact ar (by omega) (aq (fun _ => ah trivial) fun h0 => aP (by omega) (by omega) fun x _ hx => aP (by omega) (by have := hl (by omega); omega) fun y _ hy => mH hr (ha.r x hx) (hb.r y hy))
 | x :: r, i, h => by
  unfold lbL
  exact an (item_tot hb i ⟨x, h x (List.mem_cons_self ..)⟩) fun p hp => an (mH hr (h x (List.mem_cons_self ..)) hp) fun _ _ => aq (fun _ => vG hr ha hb hl fun x hx => h x (List.mem_cons_of_mem _ hx)) fun _ => ah trivial
theorem lbM_tot (hr : TR (SmP d) rec) {a b : aT Va} (ha : SmL (SmP d) a) (hb : SmL (SmP d) b) : Tot (lbM rec a b) fun _ => True := by
 have h1 := ha.rl
 have h2 := hb.rl
 have h3 := ha.il
 have h4 := hb.il
 unfold lbM
 exact ar (by omega) (ar (by omega) (ar (by omega) (aq (fun _ => ah trivial) fun _ => aq (fun h5 => vG hr ha hb (fun _ => by omega) ha.i) fun _ => aq (fun _ => ah trivial) fun _ => ar (by omega) (aq (fun _ => ah trivial) fun _ => vG hr ha hb (fun _ => by omega) ha.i))))
theorem sbV_tot (hr : TR (SmP d) rec) {a b : aI Va} (ha : SmS (SmP d) a) (hb : SmS (SmP d) b) {f : Fld Va} (hf : SmP d f.val) (hl : f.label.length ≤ 60) : Tot (sbV rec a b f) fun _ => True := by
 unfold sbV
 exact an (wW ha hl ⟨_, hf⟩) fun x hx => an (wW hb hl ⟨_, hf⟩) fun y hy => aq (fun _ => ah trivial) fun _ => mH hr hx hy
theorem xo (hr : TR (SmP d) rec) {x : Cls Va} (hx : SmP d x.val) (ax : AB 15000 x.set) : ∀ {l : List (Cls Va)}, (∀ k ∈ l, AB 15000 k.set) → (∀ k ∈ l, SmP d k.val) → Tot (vo rec x l) fun _ => True
 | [], _, _ => ah trivial
 | y :: r, a, b => by
  have ih : Tot (vo rec x r) fun _ => True := xo hr hx ax (fun k hk => a k (List.mem_cons_of_mem _ hk)) fun k hk => b k (List.mem_cons_of_mem _ hk)
  have ay := a y (List.mem_cons_self ..)
  have hp := mz ax.len ay.len (by omega)
  unfold vo
  refine an (mH hr hx (b y (List.mem_cons_self ..))) fun _ _ => aq (fun _ => ih) fun _ => an (andL_tot (ax.mono (m := 20000) (by omega)) (ay.mono (m := 20000) (by omega)) (by omega)) fun l hl => ?_
  have := hl.len
  exact ar (by omega) (aq (fun _ => ah trivial) fun _ => ih)
theorem sbM_tot (hr : TR (SmP d) rec) {a b : aI Va} (ha : SmS (SmP d) a) (hb : SmS (SmP d) b) : Tot (sbM rec a b) fun _ => True := by
 have h1 := ha.fl
 have h2 := hb.fl
 have h3 := ha.kl
 have h4 := hb.kl
 have k3 : ∀ l : List (Cls Va), (∀ k ∈ l, AB 15000 k.set) → (∀ k ∈ l, SmP d k.val) → Tot (sbC rec b.aA l) fun _ => True := fun l => by
  induction l with
  | nil => intro _ _; exact ah trivial
  | cons x r ih =>
   intro p q
   unfold sbC
   exact ar (by omega) (an (xo hr (q x (List.mem_cons_self ..)) (p x (List.mem_cons_self ..)) hb.ab hb.k) fun _ _ => aq (fun _ => ih (fun k hk => p k (List.mem_cons_of_mem _ hk)) fun k hk => q k (List.mem_cons_of_mem _ hk)) fun _ => ah trivial)
 have k2 : ∀ l : List (Fld Va), (∀ f ∈ l, SmP d f.val) → (∀ f ∈ l, f.label.length ≤ 60) → Tot (sbF2 rec a b l) fun _ => True := fun l => by
  induction l with
  | nil => intro _ _; exact ar (by omega) (k3 _ ha.ab ha.k)
  | cons x r ih =>
   intro p q
   unfold sbF2
   exact an (sbV_tot hr ha hb (p x (List.mem_cons_self ..)) (q x (List.mem_cons_self ..))) fun _ _ => aq (fun _ => ih (fun k hk => p k (List.mem_cons_of_mem _ hk)) fun k hk => q k (List.mem_cons_of_mem _ hk)) fun _ => ah trivial
 have k1 : ∀ l : List (Fld Va), (∀ f ∈ l, SmP d f.val) → (∀ f ∈ l, f.label.length ≤ 60) → Tot (sbF1 rec a b l) fun _ => True := fun l => by
  induction l with
  | nil => intro _ _; exact ar (by omega) (k2 _ hb.f hb.lab)
  | cons x r ih =>
   intro p q
   unfold sbF1
   exact an (sbV_tot hr ha hb (p x (List.mem_cons_self ..)) (q x (List.mem_cons_self ..))) fun _ _ => aq (fun _ => ih (fun k hk => p k (List.mem_cons_of_mem _ hk)) fun k hk => q k (List.mem_cons_of_mem _ hk)) fun _ => ah trivial
 unfold sbM
 exact ar (by omega) (k1 _ ha.f ha.lab)
end
theorem sx : ∀ {n d : Nat} {a b : Vlu Va}, d ≤ 4 → SmV d a → SmV d b → d < n → Tot (oo n a b) fun _ => True
 | 0, d, a, b, _, _, _, h => by omega
 | n + 1, d, a, b, hd, ha, hb, h => by
  have hr : TR (SmP d) (oo n) := TR.of fun e he a b h1 h2 => sx (by omega) h1 h2 (by omega)
  have ca := ha.c
  have cb := hb.c
  have h1 := ca.ll
  have h2 := ca.sl
  have h3 := cb.ll
  have h4 := cb.sl
  unfold oo
  refine aq (fun _ => ah trivial) fun _ => aq (fun _ => ah trivial) fun _ => an (nG (d := d) hd ⟨ha, tr d⟩ ⟨hb, tr d⟩) fun _ _ => aq (fun _ => ah trivial) fun _ => an (ow (by omega) (by omega) ca.sc cb.sc) fun _ _ => aq (fun _ => ?_) fun _ => ah trivial
  exact an (y6 (fun x hx y hy => lbM_tot hr (ca.l x hx) (cb.l y hy)) (by omega) (by omega)) fun _ _ => aq (fun _ => y6 (fun x hx y hy => sbM_tot hr (ca.s x hx) (cb.s y hy)) (by omega) (by omega)) fun _ => ah trivial
theorem dm {c k : Option Int} (h : Tot c fun _ => True) (hk : Tot k fun _ => True) : Tot (thn c k) fun _ => True := by
 unfold thn
 exact an h fun _ _ => aq (fun _ => hk) fun _ => ah trivial
theorem tD (a b : Bool) : Tot (qe a b) fun _ => True := by
 unfold qe
 exact aq (fun _ => ah trivial) fun _ => aq (fun _ => ah trivial) fun _ => ah trivial
section
variable {α : Type} {g : α → α → Option Int}
theorem uH {b : List α} (hb : b.length ≤ 1000000000) {n : Nat} : ∀ {r : List α} {i : Nat}, (∀ x ∈ r, ∀ y ∈ b, Tot (g x y) fun _ => True) → Tot (eP g b n r i) fun _ => True
 | [], i, _ => ar hb (aq (fun _ => ah trivial) fun _ => ah trivial)
 | x :: r, i, hg => by
  have e1 : ((i : Int) + 1) = ((i + 1 : Nat) : Int) := by omega
  unfold eP
  rw [e1]
  exact ar hb (aq (fun _ => ah trivial) fun _ => aP (by omega) (by omega) fun y _ hy => an (hg x (List.mem_cons_self ..) y hy) fun _ _ => aq (fun _ => uH hb fun x hx => hg x (List.mem_cons_of_mem _ hx)) fun _ => ah trivial)
theorem iB {a b : List α} (hg : ∀ x ∈ a, ∀ y ∈ b, Tot (g x y) fun _ => True) (ha : a.length ≤ 1000000000) (hb : b.length ≤ 1000000000) : Tot (eh g a b) fun _ => True := by
 unfold eh
 exact ar ha (uH hb (i := 0) hg)
end
section
variable {P : Va → Prop} {rec : Vlu Va → Vlu Va → Option Int}
theorem qf (hr : TR P rec) {x y : Va} (hx : P x) (hy : P y) : Tot (uZ rec x y) fun _ => True := by
 unfold uZ
 exact dm (hr x y hx hy).1 (dm (hr x y hx hy).2 (ah trivial))
theorem vcLC_tot (hr : TR P rec) {x y : aT Va} (hx : SmL P x) (hy : SmL P y) : Tot (vcLC rec x y) fun _ => True := by
 have h1 := hx.il
 have h2 := hy.il
 have h3 := hx.rl
 have h4 := hy.rl
 unfold vcLC vcL1 vcL2 vcL3
 exact dm (ar (by omega) (ar (by omega) (rV _ _))) (dm (ar (by omega) (ar (by omega) (tD _ _))) (dm (an (eG hx) fun p ⟨p1, p2⟩ => an (eG hy) fun q ⟨q1, q2⟩ => iB (fun a ha b hb => qf hr (p2 a ha) (q2 b hb)) (by omega) (by omega)) (ah trivial)))
theorem vcSC_tot (hr : TR P rec) {x y : aI Va} (hx : SmS P x) (hy : SmS P y) : Tot (vcSC rec x y) fun _ => True := by
 have h1 := hx.fl
 have h2 := hy.fl
 have h3 := hx.kl
 have h4 := hy.kl
 unfold vcSC
 refine dm (iB (fun a ha b hb => ?_) (by omega) (by omega)) (dm (iB (fun a ha b hb => ?_) (by omega) (by omega)) (ah trivial))
 ·unfold vcF
  exact dm (zb _ _) (dm (rV _ _) (dm (qf hr (hx.f a ha) (hy.f b hb)) (ah trivial)))
 ·unfold vcC
  exact dm (rU (hx.ab a ha) (hy.ab b hb) (by omega)) (dm (qf hr (hx.k a ha) (hy.k b hb)) (ah trivial))
end
theorem wY : ∀ {n d : Nat} {a b : Vlu Va}, SmV d a → SmV d b → d < n → Tot (wZ n a b) fun _ => True
 | 0, d, a, b, _, _, h => by omega
 | n + 1, d, a, b, ha, hb, h => by
  have hr : TR (SmP d) (wZ n) := TR.of fun e he a b h1 h2 => wY h1 h2 (by omega)
  have ca := ha.c
  have cb := hb.c
  have h1 := ca.ll
  have h2 := ca.sl
  have h3 := cb.ll
  have h4 := cb.sl
  unfold wZ
  exact dm (tD _ _) (dm (uF (by omega) (by omega) ca.sc cb.sc) (dm (iB (fun x hx y hy => vcLC_tot hr (ca.l x hx) (cb.l y hy)) (by omega) (by omega)) (dm (iB (fun x hx y hy => vcSC_tot hr (ca.s x hx) (cb.s y hy)) (by omega) (by omega)) (ah trivial))))
theorem cmpVal_tot {d : Nat} (hd : d ≤ 4) {a b : Vlu Va} (ha : SmV d a) (hb : SmV d b) : Tot (rR a b) fun _ => True := by
 unfold rR
 exact an (iK hd ha) fun _ _ => aq (fun _ => an (iK hd hb) fun _ _ => aq (fun _ => wY ha hb (by unfold yK; omega)) fun _ => ah trivial) fun _ => ah trivial
theorem uf (x : Va) : Tot (ug x) fun _ => True := by
 unfold ug
 exact aq (fun _ => ah trivial) fun _ => ah trivial
section
variable {α : Type} {A : α → Prop} {is : α → α → Option Bool}
theorem mxI_tot (his : ∀ x y, A x → A y → Tot (is x y) fun _ => True) {x : α} (hx : A x) {i : Int} : ∀ {r : List α} {k : Int}, (∀ y ∈ r, A y) → Tot (mxI is x i r k) fun _ => True
 | [], k, _ => ah trivial
 | y :: r, k, h => by
  have ih : Tot (mxI is x i r (k + 1)) fun _ => True := mxI_tot his hx fun y hy => h y (List.mem_cons_of_mem _ hy)
  have hy := h y (List.mem_cons_self ..)
  unfold mxI
  exact aq (fun _ => ih) fun _ => an (his x y hx hy) fun _ _ => aq (fun _ => aq (fun _ => ah trivial) fun _ => an (his y x hy hx) fun _ _ => aq (fun _ => ih) fun _ => ah trivial) fun _ => ih
theorem vB (his : ∀ x y, A x → A y → Tot (is x y) fun _ => True) {l : List α} (hl : ∀ x ∈ l, A x) (h3 : l.length ≤ 3) : ∀ {r : List α} {i : Int} {out : List α}, (∀ x ∈ r, A x) → (∀ x ∈ out, A x) → r.length + out.length ≤ 3 → Tot (mxO is l r i out) fun q => q.length ≤ 3 ∧ ∀ x ∈ q, A x
 | [], i, out, _, h, hn => ah ⟨by simp at hn; omega, h⟩
 | x :: r, i, out, hr, h, hn => by
  rw [List.length_cons] at hn
  have hx := hr x (List.mem_cons_self ..)
  have ht : ∀ x ∈ r, A x := fun x hx => hr x (List.mem_cons_of_mem _ hx)
  unfold mxO
  refine ar (by omega) (an (mxI_tot his hx hl) fun _ _ => aq (fun _ => vB his hl h3 ht h (by omega)) fun _ => aZ (by omega) (vB his hl h3 ht (fun y hy => ?_) (by simp; omega)))
  rcases List.mem_append.1 hy with hy | hy
  ·exact h y hy
  ·rw [List.mem_singleton.1 hy]; exact hx
theorem yi (his : ∀ x y, A x → A y → Tot (is x y) fun _ => True) {of : α → Option (Vlu Va)} {d : Nat} (hd : d ≤ 4) (hof : ∀ x, A x → Tot (of x) (SmV d)) {l : List α} (hl : ∀ x ∈ l, A x) (h3 : l.length ≤ 3) : Tot (te is of l) fun q => q.length ≤ 3 ∧ ∀ x ∈ q, A x := by
 unfold te
 refine ar (by omega) (an (vB his hl h3 hl (fun x hx => by cases hx) (by simp; omega)) fun out ⟨o1, o2⟩ => ?_)
 refine (qm (A := A) (fun x y hx hy => ?_) o2 (by omega)).mono fun q ⟨q1, q2, _⟩ => ⟨by omega, q2⟩
 unfold uG
 exact an (hof x hx) fun a ha => an (hof y hy) fun b hb => cmpVal_tot hd ha hb
end
theorem SmP.bot {d : Nat} {x : Va} (h : SmP d x) : Tot (jd x.v) fun _ => True := by
 cases d with
 | zero => exact h.elim
 | succ d => exact nY h.1.c
theorem SmP.same {d : Nat} (hd : d ≤ 4) {x y : Va} (hx : SmP d x) (hy : SmP d y) : Tot (oC x y) fun _ => True := by
 cases d with
 | zero => exact hx.elim
 | succ d => exact nG (by omega) hx hy
theorem SmL.z (P : Va → Prop) : SmL P ⟨[], []⟩ := ⟨by show (0 : Nat) ≤ 3; omega, by show (0 : Nat) ≤ 2; omega, fun x h => (by cases h), fun x h => (by cases h)⟩
theorem SmS.z (P : Va → Prop) : SmS P ⟨[], []⟩ := ⟨by show (0 : Nat) ≤ 4; omega, by show (0 : Nat) ≤ 4; omega, fun x h => (by cases h), fun x h => (by cases h), fun x h => (by cases h), fun x h => (by cases h), by show (1 : Nat) ≤ 14641; omega⟩
def CvT (d : Nat) (cv : Va → Option (Va × Bool)) : Prop := ∀ x, SmP d x → Tot (cv x) fun p => SmP d p.1
theorem all_push {α : Type} {A : α → Prop} {l : List α} (h : ∀ x ∈ l, A x) {y : α} (hy : A y) : ∀ x ∈ l ++ [y], A x := fun x hx => by
 rcases List.mem_append.1 hx with hx | hx
 ·exact h x hx
 ·rw [List.mem_singleton.1 hx]; exact hy
section
variable {d : Nat} {cv : Va → Option (Va × Bool)}
theorem oh (hcv : CvT d cv) {is : Bool} {items : List Va} (h1 : items.length ≤ 3) (h2 : ∀ x ∈ items, SmP d x) : ∀ {r out : List Va}, (∀ x ∈ r, SmP d x) → (∀ x ∈ out, SmP d x) → r.length + out.length ≤ 2 → Tot (oY cv is items r out) fun q => SmL (SmP d) q.1
 | [], out, _, h, hn => ah ⟨h1, by simp at hn; show out.length ≤ 2; omega, h2, h⟩
 | x :: r, out, hr, h, hn => by
  rw [List.length_cons] at hn
  have ht : ∀ x ∈ r, SmP d x := fun x hx => hr x (List.mem_cons_of_mem _ hx)
  unfold oY
  exact an (hcv x (hr x (List.mem_cons_self ..))) fun p hp => aq (fun _ => an hp.bot fun _ _ => aq (fun _ => oh hcv h1 h2 ht h (by omega)) fun _ => aZ (by omega) (oh hcv h1 h2 ht (all_push h hp) (by simp; omega))) fun _ => ah (SmL.z _)
theorem wg (hcv : CvT d cv) {rest : List Va} (h1 : rest.length ≤ 2) (h2 : ∀ x ∈ rest, SmP d x) : ∀ {r : List Va} {is : Bool} {out : List Va}, (∀ x ∈ r, SmP d x) → (∀ x ∈ out, SmP d x) → r.length + out.length ≤ 3 → Tot (clI cv rest r is out) fun q => SmL (SmP d) q.1
 | [], is, out, _, h, hn => by
  unfold clI
  exact ar (by omega) (oh hcv (by simp at hn; omega) h h2 (fun x hx => by cases hx) (by simp; omega))
 | x :: r, is, out, hr, h, hn => by
  rw [List.length_cons] at hn
  have ht : ∀ x ∈ r, SmP d x := fun x hx => hr x (List.mem_cons_of_mem _ hx)
  unfold clI
  exact an (hcv x (hr x (List.mem_cons_self ..))) fun p hp => aq (fun _ => aq (fun _ => an hp.bot fun _ _ => aZ (by omega) (wg hcv h1 h2 ht (all_push h hp) (by simp; omega))) fun _ => aZ (by omega) (wg hcv h1 h2 ht (all_push h hp) (by simp; omega))) fun _ => ah (SmL.z _)
theorem canL_tot (hcv : CvT d cv) {c : aT Va} (h : SmL (SmP d) c) : Tot (canL cv c) fun q => SmL (SmP d) q.1 := by
 have h1 := h.il
 unfold canL
 exact ar (by omega) (wg hcv h.rl h.r h.i (fun x hx => by cases hx) (by simp; omega))
end
def wK (k : Cls Va) : Nat := k.set.length + 3
def WK (l : List (Cls Va)) : Nat := (l.map wK).prod
theorem fZ (k : Cls Va) (l : List (Cls Va)) : WK (k :: l) = wK k * WK l := by
 unfold WK
 rw [List.map_cons, List.prod_cons]
theorem WK_app (l m : List (Cls Va)) : WK (l ++ m) = WK l * WK m := by
 unfold WK
 rw [List.map_append, List.prod_append]
theorem sE : ∀ l : List (Cls Va), 1 ≤ WK l
 | [] => Nat.le_refl _
 | k :: l => by
  rw [fZ]
  exact Nat.mul_le_mul (show 1 ≤ wK k by unfold wK; omega) (sE l)
theorem WK_mem : ∀ {l : List (Cls Va)} {k : Cls Va}, k ∈ l → wK k ≤ WK l
 | x :: l, k, h => by
  rw [fZ]
  rcases List.mem_cons.1 h with rfl | h
  ·exact Nat.le_mul_of_pos_right _ (sE l)
  ·exact Nat.le_trans (WK_mem h) (Nat.le_mul_of_pos_left _ (by unfold wK; omega))
theorem WK_set : ∀ {l : List (Cls Va)} {i : Nat} {y z : Cls Va} {f : Nat}, l[i]? = some y → wK z ≤ wK y * f → WK (l.set i z) ≤ WK l * f
 | [], i, y, z, f, h, _ => by simp at h
 | x :: l, 0, y, z, f, h, hz => by
  simp at h
  subst h
  rw [List.set_cons_zero, fZ, fZ, Nat.mul_right_comm]
  exact Nat.mul_le_mul_right _ hz
 | x :: l, i + 1, y, z, f, h, hz => by
  rw [List.set_cons_succ, fZ, fZ, Nat.mul_assoc]
  exact Nat.mul_le_mul_left _ (WK_set (by simpa using h) hz)
theorem prod_perm {l m : List Nat} (h : l.Perm m) : l.prod = m.prod := by
 induction h with
 | nil => rfl
 | cons x _ ih => rw [List.prod_cons, List.prod_cons, ih]
 | swap x y l => rw [List.prod_cons, List.prod_cons, List.prod_cons, List.prod_cons, Nat.mul_left_comm]
 | trans _ _ a b => exact a.trans b
theorem WK_perm {l m : List (Cls Va)} (h : l.Perm m) : WK l = WK m := prod_perm (h.map wK)
structure KS (d : Nat) (l : List (Cls Va)) : Prop where
 ab : ∀ k ∈ l, AB 15000 k.set
 k : ∀ k ∈ l, SmP d k.val
theorem KS.push {d : Nat} {l : List (Cls Va)} (h : KS d l) {k : Cls Va} (ha : AB 15000 k.set) (hk : SmP d k.val) : KS d (l ++ [k]) := ⟨all_push h.ab ha, all_push h.k hk⟩
theorem KS.set {d : Nat} {l : List (Cls Va)} (h : KS d l) {i : Nat} {k : Cls Va} (ha : AB 15000 k.set) (hk : SmP d k.val) : KS d (l.set i k) := ⟨fun x hx => by
  rcases List.mem_or_eq_of_mem_set hx with hx | rfl
  ·exact h.ab x hx
  ·exact ha, fun x hx => by
  rcases List.mem_or_eq_of_mem_set hx with hx | rfl
  ·exact h.k x hx
  ·exact hk⟩
section
variable {d : Nat} {cv : Va → Option (Va × Bool)}
theorem vU (hd : d ≤ 4) (hcv : CvT d cv) {is : Bool} {fs : List (Fld Va)} (f1 : fs.length ≤ 4) (f2 : ∀ f ∈ fs, f.label.length ≤ 60) (f3 : ∀ f ∈ fs, SmP d f.val) : ∀ {r out : List (Cls Va)}, KS d r → KS d out → r.length + out.length ≤ 4 → WK out * WK r ≤ 14641 → Tot (csK cv is fs r out) fun q => SmS (SmP d) q.1
 | [], out, _, h, hn, hw => by
  unfold csK
  refine an (qm (A := fun k => AB 15000 k.set ∧ SmP d k.val) (fun x y hx hy => ?_) (fun x hx => ⟨h.ab x hx, h.k x hx⟩) (by simp at hn; omega)) fun q ⟨q1, q2, q3⟩ => ah ⟨f1, ?_, f2, f3, fun k hk => (q2 k hk).1, fun k hk => (q2 k hk).2, ?_⟩
  ·unfold cmpC2
   exact rU hx.1 hy.1 (by omega)
  ·show q.length ≤ 4
   simp at hn
   omega
  ·show WK q ≤ 14641
   rw [WK_perm q3]
   exact Nat.le_trans (Nat.le_mul_of_pos_right _ (sE [])) hw
 | k :: r, out, hr, h, hn, hw => by
  rw [List.length_cons] at hn
  rw [fZ] at hw
  have ak := hr.ab k (List.mem_cons_self ..)
  have ht : KS d r := ⟨fun x hx => hr.ab x (List.mem_cons_of_mem _ hx), fun x hx => hr.k x (List.mem_cons_of_mem _ hx)⟩
  have hpo := sE out
  have hpr := sE r
  unfold csK
  refine an (hcv k.val (hr.k k (List.mem_cons_self ..))) fun p hp => aq (fun _ => an (yz (fun x hx => SmP.same hd (h.k x hx) hp) (by omega)) fun i hi => aq (fun _ => ?_) fun hi0 => ?_) fun _ => ah (SmS.z _)
  ·refine an (vw (ak.mono (m := 20000) (by omega)) (AB.nil 20000) (by omega)) fun l ⟨l1, l2⟩ => aZ (by omega) ?_
   have l3 := l2 rfl
   have a4 := ak.len
   refine vU hd hcv f1 f2 f3 ht (h.push ⟨by show l.length ≤ 15000; omega, l1.row, l1.eb⟩ hp) (by simp; omega) ?_
   rw [WK_app, fZ, show WK [] = 1 from rfl, Nat.mul_one, Nat.mul_assoc]
   refine Nat.le_trans (Nat.mul_le_mul_left _ (Nat.mul_le_mul_right _ ?_)) hw
   show l.length + 3 ≤ k.set.length + 3
   omega
  ·refine aP (by omega) (by omega) fun y hy hym => ?_
   have ay := h.ab y hym
   refine an (vw (ay.mono (m := 20000) (by omega)) (ak.mono (m := 20000) (by omega)) (by omega)) fun l ⟨l1, _⟩ => u4 (by omega) (by omega) fun z hz hzm => ?_
   have e : l.length + 3 ≤ wK y * wK k := by
    have := l1.len
    unfold gK at this
    unfold wK
    have e1 : (y.set.length + 2) * (k.set.length + 2) = y.set.length * k.set.length + 2 * y.set.length + 2 * k.set.length + 4 := by
     rw [Nat.add_mul, Nat.mul_add, Nat.mul_add]; omega
    have e2 : (y.set.length + 3) * (k.set.length + 3) = y.set.length * k.set.length + 3 * y.set.length + 3 * k.set.length + 9 := by
     rw [Nat.add_mul, Nat.mul_add, Nat.mul_add]; omega
    omega
   have e3 : wK y * wK k ≤ 14641 := by
    refine Nat.le_trans (Nat.mul_le_mul (WK_mem hym) ?_) hw
    exact Nat.le_mul_of_pos_right _ hpr
   refine vU hd hcv f1 f2 f3 ht (h.set ⟨by show l.length ≤ 15000; omega, l1.row, l1.eb⟩ (h.k z hzm)) (by simp; omega) ?_
   refine Nat.le_trans (Nat.mul_le_mul_right _ (WK_set (f := wK k) hy e)) ?_
   rw [Nat.mul_assoc]
   exact hw
theorem csF_tot (hd : d ≤ 4) (hcv : CvT d cv) {ks : List (Cls Va)} (k1 : ks.length ≤ 4) (k2 : KS d ks) (k3 : WK ks ≤ 14641) : ∀ {r : List (Fld Va)} {is : Bool} {out : List (Fld Va)}, (∀ f ∈ r, f.label.length ≤ 60) → (∀ f ∈ r, SmP d f.val) → (∀ f ∈ out, f.label.length ≤ 60) → (∀ f ∈ out, SmP d f.val) → r.length + out.length ≤ 4 → Tot (csF cv ks r is out) fun q => SmS (SmP d) q.1
 | [], is, out, _, _, o1, o2, hn => by
  unfold csF
  exact ar (by omega) (vU hd hcv (by simp at hn; omega) o1 o2 k2 ⟨fun x hx => (by cases hx), fun x hx => (by cases hx)⟩ (by simp; omega) (by rw [show WK [] = 1 from rfl, Nat.one_mul]; exact k3))
 | f :: r, is, out, r1, r2, o1, o2, hn => by
  rw [List.length_cons] at hn
  have t1 : ∀ f ∈ r, f.label.length ≤ 60 := fun x hx => r1 x (List.mem_cons_of_mem _ hx)
  have t2 : ∀ f ∈ r, SmP d f.val := fun x hx => r2 x (List.mem_cons_of_mem _ hx)
  have hl := r1 f (List.mem_cons_self ..)
  have key : ∀ (p : Va) (is : Bool), SmP d p → Tot (csF cv ks r is (out ++ [⟨f.label, f.fe, p⟩])) fun q => SmS (SmP d) q.1 := fun p is hp => csF_tot hd hcv k1 k2 k3 t1 t2 (all_push o1 hl) (all_push o2 hp) (by simp; omega)
  unfold csF
  exact an (hcv f.val (r2 f (List.mem_cons_self ..))) fun p hp => aq (fun _ => aq (fun _ => an hp.bot fun _ _ => aZ (by omega) (key _ _ hp)) fun _ => aZ (by omega) (key _ _ hp)) fun _ => ah (SmS.z _)
theorem canS_tot (hd : d ≤ 4) (hcv : CvT d cv) {c : aI Va} (h : SmS (SmP d) c) : Tot (canS cv c) fun q => SmS (SmP d) q.1 := by
 have h1 := h.fl
 unfold canS
 exact ar (by omega) (csF_tot hd hcv h.kl ⟨h.ab, h.k⟩ h.w h.lab h.f (fun x hx => by cases hx) (fun x hx => by cases hx) (by simp; omega))
end
theorem allS_tot : Tot allS fun s => SB 1 8 s := by
 show Tot (some (⟨true, true, true, [⟨-100000000000, 100000000000⟩], [⟨-999999999999999, 999999999999999⟩], allL⟩ : bW)) _
 refine ah ⟨kI (by omega) (by omega), kI (by omega) (by omega), ⟨by show (1 : Nat) ≤ 8; omega, fun s hs => ?_, fun s hs e he => ?_⟩⟩
 ·rw [List.mem_singleton.1 hs]
  show (1 : Nat) ≤ 256
  omega
 ·rw [List.mem_singleton.1 hs] at he
  rw [List.mem_singleton.1 he]
  exact ⟨by decide, by decide, by decide, by decide⟩
theorem openL_tot {P : Va → Prop} {c : aT Va} (h : SmL P c) : Tot (xV c) fun _ => True := by
 have h1 := h.il
 have h2 := h.rl
 unfold xV
 exact ar (by omega) (aq (fun _ => ar (by omega) (aq (fun _ => aP (by omega) (by omega) fun x _ _ => uf x) fun _ => ah trivial)) fun _ => ah trivial)
theorem openSt_tot {P : Va → Prop} {c : aI Va} (h : SmS P c) : Tot (qT c) fun _ => True := by
 have h1 := h.fl
 have h2 := h.kl
 unfold qT
 exact ar (by omega) (aq (fun _ => ar (by omega) (aq (fun _ => aP (by omega) (by omega) fun x _ _ => uf _) fun _ => ah trivial)) fun _ => ah trivial)
theorem evM_tot {P : Va → Prop} {v : Vlu Va} (h : SmC P v) : Tot (evM v) fun _ => True := by
 have h1 := h.ll
 have h2 := h.sl
 unfold evM
 exact ar (by omega) (aq (fun _ => ar (by omega) (aq (fun _ => an allS_tot fun s hs => an (uF (by omega) (by omega) h.sc hs) fun _ _ => aq (fun _ => aP (by omega) (by omega) fun l _ hl => an (openL_tot (h.l l hl)) fun _ _ => aq (fun _ => aP (by omega) (by omega) fun s _ hs => openSt_tot (h.s s hs)) fun _ => ah trivial) fun _ => ah trivial) fun _ => ah trivial)) fun _ => ah trivial)
theorem top_sm (d : Nat) : SmV d ⟨true, dX, [], []⟩ := SmV.of ⟨(hU 5 8).sb, by show (0 : Nat) ≤ 3; omega, by show (0 : Nat) ≤ 3; omega, fun c hc => (by cases hc), fun c hc => (by cases hc)⟩
section
variable {d : Nat}
theorem ofL_tot {c : aT Va} (h : SmL (SmP d) c) : Tot (ofL c) (SmV d) := ah (SmV.of ⟨(hU 5 8).sb, by show (1 : Nat) ≤ 3; omega, by show (0 : Nat) ≤ 3; omega, fun x hx => by rw [List.mem_singleton.1 hx]; exact h, fun c hc => (by cases hc)⟩)
theorem ofSt_tot {c : aI Va} (h : SmS (SmP d) c) : Tot (ofSt c) (SmV d) := ah (SmV.of ⟨(hU 5 8).sb, by show (0 : Nat) ≤ 3; omega, by show (1 : Nat) ≤ 3; omega, fun c hc => (by cases hc), fun x hx => by rw [List.mem_singleton.1 hx]; exact h⟩)
theorem cnE_tot (hd : d ≤ 4) {sc : bW} (hs : SB 5 8 sc) {ls : List (aT Va)} {ss : List (aI Va)} (l1 : ls.length ≤ 3) (l2 : ∀ c ∈ ls, SmL (SmP d) c) (s1 : ss.length ≤ 3) (s2 : ∀ c ∈ ss, SmS (SmP d) c) : Tot (cnE sc ls ss) fun q => SmV d q.1 := by
 have hr : TR (SmP d) (oo lA) := TR.of fun e he a b h1 h2 => sx (by omega) h1 h2 (by unfold lA; omega)
 unfold cnE
 have h1 : Tot (te (lbM (oo lA)) ofL ls) fun q => q.length ≤ 3 ∧ ∀ c ∈ q, SmL (SmP d) c := yi (A := SmL (SmP d)) (fun x y hx hy => lbM_tot hr hx hy) hd (fun x hx => ofL_tot hx) l2 l1
 have h2 : Tot (te (sbM (oo lA)) ofSt ss) fun q => q.length ≤ 3 ∧ ∀ c ∈ q, SmS (SmP d) c := yi (A := SmS (SmP d)) (fun x y hx hy => sbM_tot hr hx hy) hd (fun x hx => ofSt_tot hx) s2 s1
 refine an h1 fun ls ⟨l1, l2⟩ => an h2 fun ss ⟨s1, s2⟩ => ?_
 have hv : SmC (SmP d) ⟨false, sc, ls, ss⟩ := ⟨hs, l1, s1, l2, s2⟩
 exact an (evM_tot hv) fun _ _ => aq (fun _ => ah (top_sm d)) fun _ => ah (SmV.of hv)
variable {cv : Va → Option (Va × Bool)}
theorem vX (hd : d ≤ 4) (hcv : CvT d cv) {sc : bW} (hs : SB 5 8 sc) {ls : List (aT Va)} (l1 : ls.length ≤ 3) (l2 : ∀ c ∈ ls, SmL (SmP d) c) : ∀ {r out : List (aI Va)}, (∀ c ∈ r, SmS (SmP d) c) → (∀ c ∈ out, SmS (SmP d) c) → r.length + out.length ≤ 3 → Tot (cnS cv sc ls r out) fun q => SmV d q.1
 | [], out, _, h, hn => by
  unfold cnS
  exact cnE_tot hd hs l1 l2 (by simp at hn; omega) h
 | c :: r, out, hr, h, hn => by
  rw [List.length_cons] at hn
  have ht : ∀ x ∈ r, SmS (SmP d) x := fun x hx => hr x (List.mem_cons_of_mem _ hx)
  unfold cnS
  exact an (canS_tot hd hcv (hr c (List.mem_cons_self ..))) fun p hp => aq (fun _ => aq (fun _ => aZ (by omega) (vX hd hcv hs l1 l2 ht (all_push h hp) (by simp; omega))) fun _ => vX hd hcv hs l1 l2 ht h (by omega)) fun _ => ah (tr d)
theorem vY (hd : d ≤ 4) (hcv : CvT d cv) {sc : bW} (hs : SB 5 8 sc) {ss : List (aI Va)} (s1 : ss.length ≤ 3) (s2 : ∀ c ∈ ss, SmS (SmP d) c) : ∀ {r out : List (aT Va)}, (∀ c ∈ r, SmL (SmP d) c) → (∀ c ∈ out, SmL (SmP d) c) → r.length + out.length ≤ 3 → Tot (cnL cv sc ss r out) fun q => SmV d q.1
 | [], out, _, h, hn => by
  unfold cnL
  exact ar (by omega) (vX hd hcv hs (by simp at hn; omega) h s2 (fun x hx => by cases hx) (by simp; omega))
 | c :: r, out, hr, h, hn => by
  rw [List.length_cons] at hn
  have ht : ∀ x ∈ r, SmL (SmP d) x := fun x hx => hr x (List.mem_cons_of_mem _ hx)
  unfold cnL
  exact an (canL_tot hcv (hr c (List.mem_cons_self ..))) fun p hp => aq (fun _ => aq (fun _ => aZ (by omega) (vY hd hcv hs s1 s2 ht (all_push h hp) (by simp; omega))) fun _ => vY hd hcv hs s1 s2 ht h (by omega)) fun _ => ah (tr d)
theorem yW (hd : d ≤ 4) {cf : Vlu Va → Option (Vlu Va × Bool)} (hcf : ∀ v, SmV d v → Tot (cf v) fun q => SmV d q.1) {x : Va} (hx : SmA d x) : Tot (vT cf x) fun p => SmA d p.1 := by
 unfold vT
 exact an (hcf _ hx.1) fun a ha => an (hcf _ hx.2) fun b hb => aq (fun _ => aq (fun _ => an (sx hd hb ha (by unfold lA; omega)) fun _ _ => ah ⟨ha, hb⟩) fun _ => ah ⟨ha, hb⟩) fun _ => ah ⟨ha, hb⟩
end
theorem zm : ∀ {n d : Nat} {v : Vlu Va}, d ≤ 4 → SmV d v → d < n → Tot (wo n v) fun q => SmV d q.1
 | 0, d, v, _, _, h => by omega
 | n + 1, d, v, hd, hv, h => by
  have hcv : CvT d (vT (wo n)) := by
   intro x hx
   cases d with
   | zero => exact hx.elim
   | succ d => exact yW (by omega) (fun v hv => zm (by omega) hv (by omega)) hx
  have hc := hv.c
  have h1 := hc.ll
  unfold wo copS
  refine aq (fun _ => ah hv) fun _ => an (copS_tot (by omega) (by omega) hc.sc) fun sc hsc => ar (by omega) ?_
  exact vY hd hcv hsc hc.sl hc.s hc.l (fun x hx => by cases hx) (by simp; omega)
theorem makeR_tot {d : Nat} (hd : d ≤ 4) {x : Va} (hx : SmA d x) : Tot (q9 x) fun p => SmA d p.1 := by
 unfold q9
 exact an (soundV_tot hd hx) fun _ _ => aq (fun _ => an (yW hd (fun v hv => zm hd hv (by unfold lA; omega)) hx) fun p hp => aq (fun _ => ah hp) fun _ => ah (zI d)) fun _ => ah (zI d)
theorem zY {d : Nat} (hd : d ≤ 4) {x : Va} (hx : SmA d x) : Tot (nu x) fun _ => True := by
 unfold nu
 exact an (makeR_tot hd hx) fun p hp => aq (fun _ => nG hd hp hx) fun _ => ah trivial
end Go.Proofs.YtmjddpeookapaaaGreatDoor
