/- For ConcreteHidden: values: sound. -/
import Derived.Test.YtmjddpeookapaaaGreatDoorNc
import Derived.Test.YtmjddpeookapaaaGreatDoorMh
set_option linter.unusedVariables false
set_option linter.unusedSimpArgs false
set_option linter.unusedSectionVars false
namespace Go.Proofs.YtmjddpeookapaaaGreatDoor
open Sv
structure SmL (P : Va → Prop) (c : aT Va) : Prop where
 il : c.items.length ≤ 3
 rl : c.rest.length ≤ 2
 i : ∀ x ∈ c.items, P x
 r : ∀ x ∈ c.rest, P x
structure SmS (P : Va → Prop) (c : aI Va) : Prop where
 fl : c.fields.length ≤ 4
 kl : c.aA.length ≤ 4
 lab : ∀ f ∈ c.fields, f.label.length ≤ 60
 f : ∀ f ∈ c.fields, P f.val
 ab : ∀ k ∈ c.aA, AB 15000 k.set
 k : ∀ k ∈ c.aA, P k.val
 w : (c.aA.map fun (k : Cls Va) => k.set.length + 3).prod ≤ 14641
structure SmC (P : Va → Prop) (v : Vlu Va) : Prop where
 sc : SB 5 8 v.sc
 ll : v.lists.length ≤ 3
 sl : v.structs.length ≤ 3
 l : ∀ c ∈ v.lists, SmL P c
 s : ∀ c ∈ v.structs, SmS P c
def SmV : Nat → Vlu Va → Prop
 | 0, v => SmC (fun _ => False) v
 | d + 1, v => SmC (fun x => SmV d x.v ∧ SmV d x.d) v
def SmA (d : Nat) (x : Va) : Prop := SmV d x.v ∧ SmV d x.d
def SmP : Nat → Va → Prop
 | 0, _ => False
 | d + 1, x => SmA d x
theorem SmV.c {d : Nat} {v : Vlu Va} (h : SmV d v) : SmC (SmP d) v := by
 cases d <;> exact h
theorem SmL.mono {P Q : Va → Prop} {c : aT Va} (h : SmL P c) (k : ∀ x, P x → Q x) : SmL Q c := ⟨h.il, h.rl, fun x hx => k x (h.i x hx), fun x hx => k x (h.r x hx)⟩
theorem SmS.mono {P Q : Va → Prop} {c : aI Va} (h : SmS P c) (k : ∀ x, P x → Q x) : SmS Q c := ⟨h.fl, h.kl, h.lab, fun x hx => k _ (h.f x hx), h.ab, fun x hx => k _ (h.k x hx), h.w⟩
theorem SmC.mono {P Q : Va → Prop} {v : Vlu Va} (h : SmC P v) (k : ∀ x, P x → Q x) : SmC Q v := ⟨h.sc, h.ll, h.sl, fun c hc => (h.l c hc).mono k, fun c hc => (h.s c hc).mono k⟩
theorem SmV.of {d : Nat} {v : Vlu Va} (h : SmC (SmP d) v) : SmV d v := by
 cases d <;> exact h
theorem prod_le {α : Type} {f g : α → Nat} (h : ∀ x, f x ≤ g x) : ∀ l : List α, (l.map f).prod ≤ (l.map g).prod
 | [] => Nat.le_refl _
 | x :: r => by
  rw [List.map_cons, List.map_cons, List.prod_cons, List.prod_cons]
  exact Nat.mul_le_mul (h x) (prod_le h r)
theorem two_pow {α : Type} : ∀ l : List α, (l.map fun _ => 2).prod = 2 ^ l.length
 | [] => rfl
 | x :: r => by rw [List.map_cons, List.prod_cons, two_pow r, List.length_cons, Nat.pow_succ, Nat.mul_comm]
theorem SmS.vec {P : Va → Prop} {c : aI Va} (h : SmS P c) : sN c < 500000000 := by
 have h1 : (c.aA.map fun (k : Cls Va) => k.set.length + 1).prod ≤ 14641 := Nat.le_trans (prod_le (fun k => by omega) _) h.w
 have h2 : (c.fields.map fun (_ : Fld Va) => 2).prod ≤ 16 := by
  rw [two_pow]
  exact Nat.pow_le_pow_right (n := 2) (by omega) h.fl
 unfold sN radV
 rw [List.prod_append, List.prod_cons]
 have := Nat.mul_le_mul h1 (Nat.mul_le_mul_left 62 h2)
 omega
theorem SmS.sci {P : Va → Prop} {c : aI Va} (h : SmS P c) : SCi 15000 c := ⟨by have := h.kl; omega, by have := h.fl; omega, h.ab, h.lab⟩
theorem tR {k n : Nat} (hk : k ≤ 12) (hn : n < 400000000) {s : bW} (h : SB k n s) : Tot (tS s) fun _ => True := by
 have h1 := h.i.1
 have h2 := h.f.1
 have h3 := h.a.len
 unfold tS
 exact aq (fun _ => ah trivial) fun _ => aq (fun _ => ah trivial) fun _ => aq (fun _ => ah trivial) fun _ => ar (by omega) (ar (by omega) (ar (by omega) (ah trivial)))
theorem nY {P : Va → Prop} {v : Vlu Va} (h : SmC P v) : Tot (jd v) fun _ => True := by
 have h1 := h.ll
 have h2 := h.sl
 unfold jd
 exact aq (fun _ => ah trivial) fun _ => ar (by omega) (ar (by omega) (aq (fun _ => an (tR (by omega) (by omega) h.sc) fun c _ => aq (fun _ => ah trivial) fun _ => l7 (by omega) (by omega) h.sc) fun _ => ah trivial))
theorem svK_tot : ∀ {ks : List (Cls Va)} {out : List Va}, ks.length + out.length ≤ 1000 → Tot (svK ks out) fun r => r = out ++ ks.map (·.val)
 | [], out, _ => ah (by simp)
 | k :: ks, out, h => by
  rw [List.length_cons] at h
  unfold svK
  exact aZ (by omega) ((svK_tot (by simp; omega)).mono fun r hr => by rw [hr]; simp)
theorem svF_tot {ks : List (Cls Va)} : ∀ {fs : List (Fld Va)} {out : List Va}, fs.length + ks.length + out.length ≤ 1000 → Tot (svF ks fs out) fun r => r = out ++ fs.map (·.val) ++ ks.map (·.val)
 | [], out, h => by
  unfold svF
  exact ar (by simp at h; omega) ((svK_tot (by simp at h; omega)).mono fun r hr => by rw [hr]; simp)
 | f :: fs, out, h => by
  rw [List.length_cons] at h
  unfold svF
  exact aZ (by omega) ((svF_tot (ks := ks) (fs := fs) (by simp; omega)).mono fun r hr => by rw [hr]; simp)
theorem qk {P : Va → Prop} {c : aI Va} (h : SmS P c) : Tot (gm c) fun r => r.length ≤ 8 ∧ ∀ x ∈ r, P x := by
 have h1 := h.fl
 have h2 := h.kl
 unfold gm
 refine ar (by omega) ((svF_tot (by simp; omega)).mono fun r hr => ?_)
 rw [hr]
 refine ⟨by simp; omega, fun x hx => ?_⟩
 rcases List.mem_append.1 hx with hx | hx
 ·rw [List.nil_append] at hx
  obtain ⟨f, hf, rfl⟩ := List.mem_map.1 hx
  exact h.f f hf
 ·obtain ⟨k, hk, rfl⟩ := List.mem_map.1 hx
  exact h.k k hk
theorem eG {P : Va → Prop} {c : aT Va} (h : SmL P c) : Tot (eH c) fun r => r.length ≤ 5 ∧ ∀ x ∈ r, P x := by
 have h1 := h.il
 have h2 := h.rl
 unfold eH
 refine (oe (by omega)).mono fun r hr => ?_
 rw [hr]
 refine ⟨by simp; omega, fun x hx => ?_⟩
 rcases List.mem_append.1 hx with hx | hx
 ·exact h.i x hx
 ·exact h.r x hx
theorem chS_tot {P : Va → Prop} : ∀ {ss : List (aI Va)} {out : List Va}, (∀ c ∈ ss, SmS P c) → (∀ x ∈ out, P x) → out.length + 8 * ss.length ≤ 1000 → Tot (chS ss out) fun r => r.length ≤ out.length + 8 * ss.length ∧ ∀ x ∈ r, P x
 | [], out, _, h, _ => ah ⟨by simp, h⟩
 | c :: ss, out, hs, h, hl => by
  rw [List.length_cons] at hl
  unfold chS
  refine an (qk (hs c (List.mem_cons_self ..))) fun l ⟨l1, l2⟩ => kp (by omega) ((chS_tot (fun c hc => hs c (List.mem_cons_of_mem _ hc)) (fun x hx => ?_) (by simp; omega)).mono fun r ⟨r1, r2⟩ => ⟨by simp at r1; rw [List.length_cons]; omega, r2⟩)
  rcases List.mem_append.1 hx with hx | hx
  ·exact h x hx
  ·exact l2 x hx
theorem chL_tot {P : Va → Prop} {ss : List (aI Va)} (hss : ∀ c ∈ ss, SmS P c) (hsl : ss.length ≤ 3) : ∀ {ls : List (aT Va)} {out : List Va}, (∀ c ∈ ls, SmL P c) → (∀ x ∈ out, P x) → out.length + 5 * ls.length ≤ 100 → Tot (chL ss ls out) fun r => r.length ≤ out.length + 5 * ls.length + 24 ∧ ∀ x ∈ r, P x
 | [], out, _, h, hl => by
  unfold chL
  exact ar (by omega) ((chS_tot hss h (by simp at hl; omega)).mono fun r ⟨r1, r2⟩ => ⟨by simp; omega, r2⟩)
 | c :: ls, out, hs, h, hl => by
  rw [List.length_cons] at hl
  unfold chL
  refine an (eG (hs c (List.mem_cons_self ..))) fun l ⟨l1, l2⟩ => kp (by omega) ((chL_tot hss hsl (fun c hc => hs c (List.mem_cons_of_mem _ hc)) (fun x hx => ?_) (by simp; omega)).mono fun r ⟨r1, r2⟩ => ⟨by simp at r1; rw [List.length_cons]; omega, r2⟩)
  rcases List.mem_append.1 hx with hx | hx
  ·exact h x hx
  ·exact l2 x hx
theorem childV_tot {P : Va → Prop} {v : Vlu Va} (h : SmC P v) : Tot (r4 v) fun r => r.length ≤ 39 ∧ ∀ x ∈ r, P x := by
 have h1 := h.ll
 unfold r4
 exact ar (by omega) ((chL_tot h.s h.sl h.l (fun x hx => by cases hx) (by simp; omega)).mono fun r ⟨r1, r2⟩ => ⟨by simp at r1; omega, r2⟩)
theorem yL {l : List (Fld Va)} (hl : l.length ≤ 1000) : ∀ {r : List (Fld Va)} {i : Nat}, i + r.length = l.length → Tot (vO l r i) fun _ => True
 | [], i, _ => ah trivial
 | f :: r, i, h => by
  rw [List.length_cons] at h
  have e1 : ((i : Int) + 1) = ((i + 1 : Nat) : Int) := by omega
  have ih : Tot (vO l r ((i + 1 : Nat) : Int)) fun _ => True := yL hl (by omega)
  have h1 : Tot (fld1 l f i) fun _ => True := by
   unfold fld1
   exact aq (fun h0 => ar ⟨by omega, by omega⟩ (aP (by omega) (by omega) fun p _ _ => ah trivial)) fun _ => ah trivial
  unfold vO
  rw [e1]
  exact aq (fun _ => an h1 fun c _ => aq (fun _ => ih) fun _ => ah trivial) fun _ => aq (fun _ => an h1 fun c _ => aq (fun _ => ih) fun _ => ah trivial) fun _ => ah trivial
theorem gdS_tot {P : Va → Prop} {sc : bW} (hs : SB 5 8 sc) : ∀ {ss : List (aI Va)}, (∀ c ∈ ss, SmS P c) → Tot (gdS sc ss) fun _ => True
 | [], _ => (iH (by omega) (by omega) hs).mono fun _ _ => trivial
 | c :: r, h => by
  have hc := h c (List.mem_cons_self ..)
  have hf := hc.fl
  have h1 : Tot (mV c.fields) fun _ => True := by
   unfold mV
   exact ar (by omega) (yL (by omega) (i := 0) (by omega))
  unfold gdS
  exact an h1 fun ok _ => aq (fun _ => an (clsM_tot (by omega) hc.sci hc.vec) fun ok _ => aq (fun _ => gdS_tot hs fun c hc => h c (List.mem_cons_of_mem _ hc)) fun _ => ah trivial) fun _ => ah trivial
theorem goodV_tot {P : Va → Prop} {v : Vlu Va} (h : SmC P v) : Tot (yE v) fun _ => True := by
 have h1 := h.ll
 have h2 := h.sl
 have key : ∀ {ls : List (aT Va)}, (∀ c ∈ ls, SmL P c) → Tot (gdL v.sc v.structs ls) fun _ => True := fun {ls} => by
  induction ls with
  | nil => intro _; exact ar (by omega) (gdS_tot h.sc h.s)
  | cons c r ih =>
   intro hl
   have := (hl c (List.mem_cons_self ..)).rl
   exact ar (by omega) (aq (fun _ => ah trivial) fun _ => ih fun c hc => hl c (List.mem_cons_of_mem _ hc))
 unfold yE
 exact aq (fun _ => an (tR (by omega) (by omega) h.sc) fun c _ => aq (fun _ => ar (by omega) (ar (by omega) (ah trivial))) fun _ => ah trivial) fun _ => ar (by omega) (key h.l)
def gV : Nat → Nat
 | 0 => 1
 | d + 1 => 1 + 80 * gV d
def WkB (B : Nat) (w : Wk) : Prop := 0 ≤ w.ju ∧ w.ju ≤ B
theorem wV {rec : Wk → Vlu Va → Int → Option Wk} {level : Int} (hl : 0 ≤ level ∧ level ≤ 100) {C : Nat} {P : Va → Prop} (hr : ∀ (w : Wk) (x : Va) (B : Nat), P x → B + C ≤ 1000000000000000 → WkB B w → Tot (rec w x.v (level + 1)) (WkB (B + C)) ∧ Tot (rec w x.d (level + 1)) (WkB (B + C))) : ∀ {l : List Va} {w : Wk} {B : Nat}, (∀ x ∈ l, P x) → WkB B w → B + 2 * C * l.length ≤ 1000000000000000 → Tot (zW rec level l w) (WkB (B + 2 * C * l.length))
 | [], w, B, _, h, _ => ah (by simpa using h)
 | x :: r, w, B, hp, h, hB => by
  have hx := hp x (List.mem_cons_self ..)
  have e : 2 * C * (x :: r).length = 2 * C * r.length + 2 * C := by rw [List.length_cons, Nat.mul_add, Nat.mul_one]
  rw [e] at hB ⊢
  unfold zW
  refine ar ⟨by omega, by omega⟩ (an (hr w x B hx (by omega) h).1 fun w1 h1 => an (hr w1 x (B + C) hx (by omega) h1).2 fun w2 h2 => ?_)
  refine (wV hl hr (l := r) (B := B + C + C) (fun y hy => hp y (List.mem_cons_of_mem _ hy)) h2 (by omega)).mono fun w3 h3 => ?_
  unfold WkB at *
  omega
theorem p9 : ∀ (n d : Nat) (w : Wk) (v : Vlu Va) (level : Nat) (B : Nat), SmV d v → 1 ≤ level → level ≤ 17 → 19 ≤ n + level → WkB B w → B + gV d ≤ 1000000000000000 → Tot (zU n w v level) (WkB (B + gV d))
 | 0, d, w, v, level, B, _, _, _, h, _, _ => by omega
 | n + 1, d, w, v, level, B, hv, h1, h17, hn, hw, hB => by
  have hb : ∀ d, 1 ≤ gV d := fun d => by cases d <;> simp [gV] <;> omega
  have hbd := hb d
  have hc := hv.c
  unfold zU vR
  rw [Option.bind_assoc]
  unfold WkB at hw
  refine ar ⟨by omega, by omega⟩ ?_
  rw [Option.bind_some]
  have hw' : WkB (B + 1) ⟨w.ju + 1, mx w.deep level, w.bad⟩ := ⟨by show (0 : Int) ≤ w.ju + 1; omega, by show w.ju + 1 ≤ ((B + 1 : Nat) : Int); omega⟩
  have hend : ∀ b, WkB (B + gV d) ⟨w.ju + 1, mx w.deep level, b⟩ := fun b => ⟨by show (0 : Int) ≤ w.ju + 1; omega, by show w.ju + 1 ≤ ((B + gV d : Nat) : Int); omega⟩
  refine aq (fun _ => ah (hend _)) fun hlev => an (goodV_tot hc) fun ok _ => aq (fun _ => ?_) fun _ => ah (hend _)
  refine an (childV_tot hc) fun l ⟨l1, l2⟩ => ar (by omega) ?_
  cases d with
  | zero =>
   have : l = [] := by
    cases l with
    | nil => rfl
    | cons x r => exact (l2 x (List.mem_cons_self ..)).elim
   subst this
   exact ah (hend _)
  | succ d =>
   have e2 : gV (d + 1) = 1 + 80 * gV d := rfl
   have hlen : 2 * gV d * l.length ≤ 80 * gV d := by
    have := Nat.mul_le_mul_left (2 * gV d) l1
    omega
   refine (wV (P := SmA d) (C := gV d) ⟨by omega, by omega⟩ (fun w x B' hx hB' hw => ?_) l2 hw' (by omega)).mono fun w2 h2 => ?_
   ·have e3 : ((level : Int) + 1) = ((level + 1 : Nat) : Int) := by omega
    rw [e3]
    exact ⟨p9 n d w x.v (level + 1) B' hx.1 (by omega) (by omega) (by omega) hw hB', p9 n d w x.d (level + 1) B' hx.2 (by omega) (by omega) (by omega) hw hB'⟩
   ·unfold WkB at *
    omega
end Go.Proofs.YtmjddpeookapaaaGreatDoor
