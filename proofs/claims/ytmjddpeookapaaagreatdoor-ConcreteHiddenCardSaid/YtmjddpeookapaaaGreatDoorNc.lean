/- For ConcreteHidden: classes: the mirrors answer. -/
import Derived.Test.YtmjddpeookapaaaGreatDoorNb
set_option linter.unusedVariables false
set_option linter.unusedSimpArgs false
set_option linter.unusedSectionVars false
namespace Go.Proofs.YtmjddpeookapaaaGreatDoor
open Sv
theorem yB {n : Nat} (hn : n < 1000000000) : ∀ {ks : List (Cls Va)} {a vp vq : List Int} {i : Int} {h : Nat}, KG n ks → VK ks a → i = vp.length → h + ks.length ≤ 1000 → Tot (th (vp ++ (a ++ vq)) ks i h) fun r => ∃ m : Nat, r = m ∧ m ≤ h + ks.length
 | [], a, vp, vq, i, h, _, _, _, hl => ah ⟨h, rfl, by simp⟩
 | k :: ks, a, vp, vq, i, h, hk, hv, hi, hl => by
  rw [List.length_cons] at hl
  cases hv with
  | cons s0 s1 hv =>
   rename_i s v
   have hks : KG n ks := fun k' h' => hk k' (List.mem_cons_of_mem _ h')
   have e1 : vp ++ ((s :: v) ++ vq) = (vp ++ [s]) ++ (v ++ vq) := by simp
   have e3 : vp ++ ((s :: v) ++ vq) = vp ++ s :: (v ++ vq) := by simp
   have step : ∀ g : Nat, g ≤ h + 1 → Tot (th (vp ++ ((s :: v) ++ vq)) ks (i + 1) g) fun r => ∃ m : Nat, r = m ∧ m ≤ h + (k :: ks).length := fun g hg => by
    rw [e1]
    exact (yB hn (ks := ks) (i := i + 1) (h := g) hks hv (by simp; omega) (by omega)).mono fun r ⟨m, q1, q2⟩ => ⟨m, q1, by simp; omega⟩
   unfold th
   rw [e3]
   refine iI hi (aq (fun hs => iI hi (aP hs s1 fun x hx hm => ?_)) fun _ => by rw [← e3]; exact step h (by omega))
   rw [← e3]
   refine aq (fun _ => ar ⟨by omega, by omega⟩ ?_) fun _ => step h (by omega)
   have := step (h + 1) (Nat.le_refl _)
   simpa using this
theorem yC {m : Int} : ∀ {fs : List (Fld Va)} {a vp : List Int} {i : Int} {h : Nat}, a.length = fs.length → (∀ f ∈ fs, f.label.length ≤ 60) → m + i = vp.length → h + fs.length ≤ 1000 → Tot (vK (vp ++ a) m fs i h) fun _ => True
 | [], a, vp, i, h, _, _, _, _ => ah trivial
 | f :: fs, [], vp, i, h, ha, _, _, _ => by simp at ha
 | f :: fs, s :: v, vp, i, h, ha, hf, hi, hl => by
  rw [List.length_cons] at hl
  have hlb := hf f (List.mem_cons_self ..)
  have e1 : vp ++ s :: v = (vp ++ [s]) ++ v := by simp
  have step : ∀ g : Nat, g ≤ h + 1 → Tot (vK (vp ++ s :: v) m fs (i + 1) g) fun _ => True := fun g hg => by
   rw [e1]
   exact yC (fs := fs) (i := i + 1) (h := g) (by simpa using ha) (fun f' h' => hf f' (List.mem_cons_of_mem _ h')) (by simp; omega) (by omega)
  unfold vK
  refine iI hi (ar (by omega) (aq (fun _ => ar ⟨by omega, by omega⟩ ?_) fun _ => step h (by omega)))
  have := step (h + 1) (Nat.le_refl _)
  simpa using this
theorem hits_tot {n : Nat} (hn : n < 1000000000) {c : aI Va} (hc : SCk n c) {v : List Int} (h : VOk c v) : Tot (hits c v) fun _ => True := by
 obtain ⟨a, d, L, rfl, h1, h2, h3⟩ := h
 have g1 := hc.kl
 have g2 := hc.fl
 have l1 := h1.len
 unfold hits
 refine ar (by omega) (an (yB hn (ks := c.aA) (vp := []) (vq := d) (i := 0) (h := 0) hc.kg h1 rfl (by omega)) fun r ⟨m, q1, q2⟩ => ar (by omega) ?_)
 subst q1
 exact yC (fs := c.fields) (a := d) (vp := a) (i := 0) (h := m) h3.len hc.lab (by omega) (by omega)
theorem stE_tot : ∀ {es : List Sv.Edge} {a : List Bool}, a.length = 257 → (∀ e ∈ es, EB e) → Tot (stE es a) fun r => r.length = 257
 | [], a, h, _ => ah h
 | e :: r, a, h, he => by
  obtain ⟨b1, b2, b3, b4⟩ := he e (List.mem_cons_self ..)
  unfold stE
  exact ar ⟨b3, b4⟩ (fC b1 (by omega) h (fC (by omega) (by omega) (by rw [List.length_set]; exact h) (stE_tot (by rw [List.length_set, List.length_set]; exact h) fun e' h' => he e' (List.mem_cons_of_mem _ h'))))
theorem stK_tot {n : Nat} : ∀ {ks : List (Cls Va)} {a vp vq : List Int} {i : Int} {t : List Bool}, KG n ks → VK ks a → i = vp.length → t.length = 257 → Tot (stK (vp ++ (a ++ vq)) ks i t) fun r => r.length = 257
 | [], a, vp, vq, i, t, _, _, _, h => ah h
 | k :: ks, a, vp, vq, i, t, hk, hv, hi, ht => by
  cases hv with
  | cons s0 s1 hv =>
   rename_i s v
   have hg := hk k (List.mem_cons_self ..)
   have hks : KG n ks := fun k' h' => hk k' (List.mem_cons_of_mem _ h')
   have e1 : vp ++ ((s :: v) ++ vq) = (vp ++ [s]) ++ (v ++ vq) := by simp
   have e3 : vp ++ ((s :: v) ++ vq) = vp ++ s :: (v ++ vq) := by simp
   have step : ∀ t : List Bool, t.length = 257 → Tot (stK (vp ++ ((s :: v) ++ vq)) ks (i + 1) t) fun r => r.length = 257 := fun t ht => by
    rw [e1]
    exact stK_tot (ks := ks) (i := i + 1) hks hv (by simp; omega) ht
   unfold stK
   rw [e3]
   refine iI hi (aq (fun _ => by rw [← e3]; exact step t ht) fun hs => aP (by omega) s1 fun x hx hm => ar (by have := hg.row x hm; omega) (an (stE_tot ht (hg.eb x hm)) fun t' ht' => by rw [← e3]; exact step t' ht'))
theorem stF_tot {m : Int} : ∀ {fs : List (Fld Va)} {a vp : List Int} {i : Int} {t : List Bool}, a.length = fs.length → (∀ f ∈ fs, f.label.length ≤ 60) → m + i = vp.length → t.length = 257 → Tot (stF (vp ++ a) m fs i t) fun r => r.length = 257
 | [], a, vp, i, t, _, _, _, h => ah h
 | f :: fs, [], vp, i, t, ha, _, _, _ => by simp at ha
 | f :: fs, s :: v, vp, i, t, ha, hf, hi, ht => by
  have hlb := hf f (List.mem_cons_self ..)
  have e1 : vp ++ s :: v = (vp ++ [s]) ++ v := by simp
  have step : ∀ t : List Bool, t.length = 257 → Tot (stF (vp ++ s :: v) m fs (i + 1) t) fun r => r.length = 257 := fun t ht => by
   rw [e1]
   exact stF_tot (fs := fs) (i := i + 1) (by simpa using ha) (fun f' h' => hf f' (List.mem_cons_of_mem _ h')) (by simp; omega) ht
  unfold stF
  refine iI hi (aq (fun hs => ar (by omega) (aq (fun hlt => aP hs hlt fun b _ _ => ?_) fun _ => step t ht)) fun _ => step t ht)
  have hb := b.toNat_lt
  exact fC (by omega) (by omega) ht (fC (by omega) (by omega) (by rw [List.length_set]; exact ht) (step _ (by rw [List.length_set, List.length_set]; exact ht)))
theorem va {a : List Bool} (ha : a.length = 257) : ∀ {n c : Nat} {out : List Int}, n + c = 256 → out.length ≤ c → Tot (stO a n c out) fun r => r.length ≤ 256
 | 0, c, out, h, h1 => ah (by omega)
 | n + 1, c, out, h, h1 => by
  have e1 : ((c : Int) + 1) = ((c + 1 : Nat) : Int) := by omega
  unfold stO
  refine u5 (by omega) (by omega) ha fun x _ => ?_
  rw [e1]
  exact aq (fun _ => ar ⟨by omega, by omega⟩ (aZ (by omega) (va ha (by omega) (by simp; omega)))) fun _ => va ha (by omega) (by omega)
theorem starts_tot {n : Nat} {c : aI Va} (hc : SCk n c) {v : List Int} (h : VOk c v) : Tot (ql c v) fun r => r.length ≤ 256 := by
 obtain ⟨a, d, L, rfl, h1, h2, h3⟩ := h
 have g1 := hc.kl
 have g2 := hc.fl
 have l1 := h1.len
 unfold ql
 refine ar (by omega) (an (stK_tot (ks := c.aA) (vp := []) (vq := d) (i := 0) (t := at257) hc.kg h1 rfl (by unfold at257; rw [List.length_cons, List.length_replicate])) fun t ht => ar (by omega) (an (stF_tot (fs := c.fields) (a := d) (vp := a) (i := 0) h3.len hc.lab (by omega) ht) fun t' ht' => va ht' (n := 256) (c := 0) (out := []) rfl (Nat.le_refl _)))
theorem VOk.key {n : Nat} (hn : n < 1000000000) {c : aI Va} (hc : SCk n c) {v : List Int} (h : VOk c v) : Tot (vH v) fun _ => True := by
 obtain ⟨a, d, L, rfl, h1, h2, h3⟩ := h
 have g1 := hc.kl
 have g2 := hc.fl
 have l1 := h1.len
 have l2 := h3.len
 refine keyM_tot (fun x hx => ?_) (by simp; omega)
 rcases List.mem_append.1 hx with hx | hx
 ·have := h1.rng hc.kg x hx
  omega
 ·have := h3.rng x hx
  omega
structure Met (c : aI Va) (todo : List (List Int)) (seen : List (List UInt8 × Unit)) (vs : List (List Int)) : Prop where
 nd : vs.Nodup
 ok : ∀ v ∈ vs, VOk c v
 td : ∀ v ∈ todo, VOk c v
 kn : ∀ v ∈ vs, ∀ k, vH v = some k → cn k seen ≠ none
 le : todo.length ≤ vs.length
theorem rX {n : Nat} (hn : n < 1000000000) {c : aI Va} (hc : SCk n c) (hN : sN c < 500000000) {v : List Int} (hv : VOk c v) : ∀ {bs : List Int} {todo : List (List Int)} {seen : List (List UInt8 × Unit)} {vs : List (List Int)}, Met c todo seen vs → Tot (zh c v bs todo seen) fun p => ∃ vs', Met c p.1 p.2 vs' ∧ vs'.length + todo.length = vs.length + p.1.length
 | [], todo, seen, vs, h => ah ⟨vs, h, rfl⟩
 | b :: r, todo, seen, vs, h => by
  unfold zh
  refine an (aftV_tot hn hc hv) fun w hw => ?_
  obtain ⟨k, hk, _⟩ := hw.key hn hc
  rw [hk, Option.bind_some]
  split
  ·exact rX hn hc hN hv h
  ·rename_i hf
   have hle := zX h.ok h.nd
   have htd := h.le
   have hnew : ∀ x ∈ vs, x ≠ w := fun x hx e => h.kn x hx k (by rw [e]; exact hk) hf
   have h' : Met c (todo ++ [w]) (seen ++ [(k, ())]) (vs ++ [w]) := by
    refine ⟨?_, fun x hx => ?_, fun x hx => ?_, fun x hx k' hk' => ?_, by simp; omega⟩
    ·rw [List.nodup_append]
     exact ⟨h.nd, by simp, fun x hx y hy => by rw [List.mem_singleton.1 hy]; exact hnew x hx⟩
    ·rcases List.mem_append.1 hx with hx | hx
     ·exact h.ok x hx
     ·rw [List.mem_singleton.1 hx]; exact hw
    ·rcases List.mem_append.1 hx with hx | hx
     ·exact h.td x hx
     ·rw [List.mem_singleton.1 hx]; exact hw
    ·rcases List.mem_append.1 hx with hx | hx
     ·have := h.kn x hx k' hk'
      cases hq : cn k' seen with
      | none => exact absurd hq this
      | some u => rw [rE hq]; exact fun e => by cases e
     ·rw [List.mem_singleton.1 hx, hk] at hk'
      cases hk'
      rw [mT hf]
      exact fun e => by cases e
   refine aZ (by omega) ((rX hn hc hN hv (bs := r) h').mono fun p ⟨vs', q1, q2⟩ => ⟨vs', q1, ?_⟩)
   rw [List.length_append, List.length_append, List.length_singleton] at q2
   omega
theorem zf {n : Nat} (hn : n < 1000000000) {c : aI Va} (hc : SCk n c) (hN : sN c < 500000000) : ∀ {f : Nat} {todo : List (List Int)} {seen : List (List UInt8 × Unit)} {vs : List (List Int)}, Met c todo seen vs → sN c + 1 + todo.length ≤ f + vs.length → Tot (clsW c f todo seen) fun _ => True
 | 0, todo, seen, vs, h, hf => by
  have := zX h.ok h.nd
  omega
 | f + 1, todo, seen, vs, h, hf => by
  have hle := zX h.ok h.nd
  have htd := h.le
  unfold clsW
  refine ar (by omega) (aq (fun h0 => ?_) fun _ => ah trivial)
  refine aP (by omega) (by omega) fun v _ hm => ?_
  have hv := h.td v hm
  refine an (hits_tot hn hc hv) fun x _ => aq (fun _ => ?_) fun _ => ah trivial
  refine an (starts_tot hc hv) fun bs hbs => ar (by omega) ?_
  have hl : (todo.take (todo.length - 1)).length = todo.length - 1 := by rw [List.length_take]; omega
  have h' : Met c (todo.take (todo.length - 1)) seen vs := ⟨h.nd, h.ok, fun x hx => h.td x (List.mem_of_mem_take hx), h.kn, by omega⟩
  refine an (rX hn hc hN hv h') fun p ⟨vs', q1, q2⟩ => zf hn hc hN q1 (by omega)
theorem VK.zero : ∀ {ks : List (Cls Va)}, (∀ k ∈ ks, 0 < k.set.length) → VK ks (List.replicate ks.length 0)
 | [], _ => .nil
 | k :: ks, h => by
  have h0 := h k (List.mem_cons_self ..)
  exact .cons (by omega) (by omega) (VK.zero fun k' h' => h k' (List.mem_cons_of_mem _ h'))
theorem VF.start : ∀ {fs : List (Fld Va)}, VF 0 fs (List.replicate fs.length 0)
 | [] => .nil
 | f :: fs => .cons (.inr ⟨rfl, Nat.zero_le _⟩) VF.start
theorem clsR_tot {n : Nat} (hn : n < 1000000000) {c : aI Va} (hc : SCk n c) (hN : sN c < 500000000) (hne : ∀ k ∈ c.aA, 0 < k.set.length) : Tot (clsR c) fun _ => True := by
 have g1 := hc.kl
 have g2 := hc.fl
 have hv : VOk c (List.replicate (c.aA.length + c.fields.length) 0) := ⟨_, _, 0, by rw [List.replicate_append_replicate], VK.zero hne, by omega, VF.start⟩
 obtain ⟨k, hk, _⟩ := hv.key hn hc
 unfold clsR
 refine ar (by omega) (ar (by omega) (ar (by omega) ?_))
 rw [hk, Option.bind_some]
 refine zf hn hc hN (vs := [List.replicate (c.aA.length + c.fields.length) 0]) ⟨by simp, fun x hx => by rw [List.mem_singleton.1 hx]; exact hv, fun x hx => by rw [List.mem_singleton.1 hx]; exact hv, fun x hx k' hk' => ?_, Nat.le_refl _⟩ (by unfold clsFuel; simp only [List.length_singleton]; omega)
 rw [List.mem_singleton.1 hx, hk] at hk'
 cases hk'
 simp [cn]
structure SCi (n : Nat) (c : aI Va) : Prop where
 kl : c.aA.length ≤ 100
 fl : c.fields.length ≤ 100
 ab : ∀ k ∈ c.aA, AB n k.set
 lab : ∀ f ∈ c.fields, f.label.length ≤ 60
theorem zg {n : Nat} (hn : n < 400000000) {c : aI Va} (hc : SCi n c) (hN : sN c < 500000000) : ∀ {r done : List (Cls Va)}, c.aA = done ++ r → (∀ k ∈ done, 0 < k.set.length ∧ Gd n k.set) → Tot (clsV c r) fun _ => True
 | [], done, e, h => by
  rw [List.append_nil] at e
  exact clsR_tot (by omega) ⟨hc.kl, hc.fl, fun k hk => (h k (e ▸ hk)).2, hc.lab⟩ hN fun k hk => (h k (e ▸ hk)).1
 | k :: r, done, e, h => by
  have hk := hc.ab k (by rw [e]; simp)
  have := hk.len
  unfold clsV
  refine ar (by omega) (aq (fun _ => ah trivial) fun h0 => an (hX hk (by omega)) fun ok hok => aq (fun h1 => ?_) fun _ => ah trivial)
  refine zg hn hc hN (r := r) (done := done ++ [k]) (by rw [e]; simp) fun k' hk' => ?_
  rcases List.mem_append.1 hk' with hk' | hk'
  ·exact h k' hk'
  ·rw [List.mem_singleton.1 hk']
   exact ⟨by omega, hok h1⟩
theorem clsM_tot {n : Nat} (hn : n < 400000000) {c : aI Va} (hc : SCi n c) (hN : sN c < 500000000) : Tot (clsM c) fun _ => True := by
 have := hc.kl
 unfold clsM
 exact ar (by omega) (zg hn hc hN (r := c.aA) (done := []) rfl fun k hk => by cases hk)
end Go.Proofs.YtmjddpeookapaaaGreatDoor
