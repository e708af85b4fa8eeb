/- For ConcreteHidden: calls, and ranges over functions. -/
import Derived.Test.YtmjddpeookapaaaGreatDoorSvD
import Derived.Lib.AppendZerosOnto
set_option linter.unusedVariables false
set_option linter.unusedSimpArgs false
set_option linter.unusedSectionVars false
namespace Sv
open Go Go.RowKit
def cV (m : Nat) : Fn → Bool
 | .yield k => decide (k < m)
 | _ => true
mutual
def nb (m : Nat) : SVal → Bool
 | .ptr k _ => decide (k < m)
 | .ec k _ _ _ => decide (k < m)
 | .own k _ => decide (k < m)
 | .map k => decide (k < m)
 | .bA row _ => nbL m row
 | .lst _ rows => nbR m rows
 | .func fn x y => cV m fn && nbL m x && nbL m y
 | .iface _ v => nb m v
 | .agg l => nbL m l
 | .tup l => nbL m l
 | _ => true
def nbL (m : Nat) : List SVal → Bool
 | [] => true
 | s :: r => nb m s && nbL m r
def nbR (m : Nat) : List (List SVal) → Bool
 | [] => true
 | row :: r => nbL m row && nbR m r
end
mutual
theorem tT (m : Nat) : ∀ s : SVal, closed s = true → nb m s = true
 | .bool _, _ => rfl
 | .int _ _, _ => rfl
 | .str _, _ => rfl
 | .nilPtr, _ => rfl
 | .ptr _ _, h => by cases h
 | .ec _ _ _ _, h => by cases h
 | .bA row _, h => aW m row h
 | .az, _ => rfl
 | .lst _ rows, h => fh m rows h
 | .own _ _, h => by cases h
 | .dy, _ => rfl
 | .map _, h => by cases h
 | .func fn x y, h => by
  rw [closed, Bool.and_eq_true, Bool.and_eq_true] at h
  rw [nb, Bool.and_eq_true, Bool.and_eq_true]
  refine ⟨⟨?_, aW m x h.1.2⟩, aW m y h.2⟩
  cases fn <;> first | rfl | (simp [cY] at h)
 | .eE, _ => rfl
 | .nilIface, _ => rfl
 | .iface _ v, h => tT m v h
 | .agg l, h => aW m l h
 | .tup l, h => aW m l h
theorem aW (m : Nat) : ∀ l : List SVal, aw l = true → nbL m l = true
 | [], _ => rfl
 | s :: r, h => by
  rw [aw, Bool.and_eq_true] at h
  rw [nbL, Bool.and_eq_true]
  exact ⟨tT m s h.1, aW m r h.2⟩
theorem fh (m : Nat) : ∀ l : List (List SVal), aJ l = true → nbR m l = true
 | [], _ => rfl
 | s :: r, h => by
  rw [aJ, Bool.and_eq_true] at h
  rw [nbR, Bool.and_eq_true]
  exact ⟨aW m s h.1, fh m r h.2⟩
end
section
variable {c c' : Ctx} {m : Nat} (hρ : ∀ k, k < m → c'.ρ k = c.ρ k) (hfz : ∀ b i v, c.fz b i = some v → c'.fz b i = some v)
include hρ hfz
mutual
theorem Den.low : ∀ (s : SVal) (v : Value), nb m s = true → Den c s v → Den c' s v
 | .bool _, _, _, e => e
 | .int _ _, _, _, e => e
 | .str _, _, _, e => e
 | .nilPtr, _, _, e => e
 | .ptr k off, v, h, ⟨b, h1, h2⟩ => ⟨b, (hρ k (of_decide_eq_true h)).trans h1, h2⟩
 | .ec k s i off, v, h, ⟨h0, b, st, sz, u, h1, h2⟩ => ⟨h0, b, st, sz, u, (hρ k (of_decide_eq_true h)).trans h1, h2⟩
 | .bA row off, v, h, ⟨b, base, h1, h2⟩ => ⟨b, base, h1, bF.low b row base h h2⟩
 | .az, _, _, e => e
 | .lst full rows, v, h, e => by
  rcases e with e | ⟨b, base, size, cap, h1, h2, h3, h4⟩
  ·exact .inl e
  ·exact .inr ⟨b, base, size, cap, h1, h2, h3, bp.low b size rows base h h4⟩
 | .own k s, v, h, ⟨h0, b, st, sz, u, h1, h2⟩ => ⟨h0, b, st, sz, u, (hρ k (of_decide_eq_true h)).trans h1, h2⟩
 | .dy, _, _, e => e
 | .map k, v, h, ⟨b, h1, h2⟩ => ⟨b, (hρ k (of_decide_eq_true h)).trans h1, h2⟩
 | .func fn x y, v, h, e => by
  rw [nb, Bool.and_eq_true, Bool.and_eq_true] at h
  cases fn <;> first
   | (obtain ⟨b, h1, h2⟩ := e; exact ⟨b, (hρ _ (of_decide_eq_true h.1.1)).trans h1, h2⟩)
   | (obtain ⟨xs, ys, h1, h2, h3⟩ := e; exact ⟨xs, ys, aM.low x xs h.1.2 h1, aM.low y ys h.2 h2, h3⟩)
 | .eE, _, _, e => e
 | .nilIface, _, _, e => e
 | .iface t s, v, h, ⟨u, h1, h2⟩ => ⟨u, Den.low s u h h1, h2⟩
 | .agg l, v, h, ⟨vs, h1, h2⟩ => ⟨vs, aM.low l vs h h1, h2⟩
 | .tup l, v, h, ⟨vs, h1, h2⟩ => ⟨vs, aM.low l vs h h1, h2⟩
theorem aM.low : ∀ (l : List SVal) (vs : List Value), nbL m l = true → aM c l vs → aM c' l vs
 | [], _, _, e => e
 | s :: r, vs, h, ⟨v, l, h1, h2, h3⟩ => by
  rw [nbL, Bool.and_eq_true] at h
  exact ⟨v, l, Den.low s v h.1 h1, aM.low r l h.2 h2, h3⟩
theorem bF.low (b : Nat) : ∀ (row : List SVal) (i : Nat), nbL m row = true → bF c b row i → bF c' b row i
 | [], _, _, _ => trivial
 | s :: r, i, h, ⟨⟨u, h1, h0, h2⟩, h3⟩ => by
  rw [nbL, Bool.and_eq_true] at h
  exact ⟨⟨u, hfz b i u h1, h0, Den.low s u h.1 h2⟩, bF.low b r (i + 1) h.2 h3⟩
theorem bp.low (b size : Nat) : ∀ (rows : List (List SVal)) (i : Nat), nbR m rows = true → bp c b size rows i → bp c' b size rows i
 | [], _, _, _ => trivial
 | row :: r, i, h, ⟨h1, h2, h3⟩ => by
  rw [nbR, Bool.and_eq_true] at h
  exact ⟨h1, bF.low b row i h.1 h2, bp.low b size r (i + size) h.2 h3⟩
end
end
theorem pJ {m : Nat} : ∀ {l : List SVal} {s : SVal}, nbL m l = true → s ∈ l → nb m s = true
 | [], _, _, h => by cases h
 | t :: r, s, h, hs => by
  rw [nbL, Bool.and_eq_true] at h
  rcases List.mem_cons.1 hs with rfl | hs
  ·exact h.1
  ·exact pJ h.2 hs
theorem pI {m : Nat} : ∀ {l : List (List SVal)} {s : List SVal}, nbR m l = true → s ∈ l → nbL m s = true
 | [], _, _, h => by cases h
 | t :: r, s, h, hs => by
  rw [nbR, Bool.and_eq_true] at h
  rcases List.mem_cons.1 hs with rfl | hs
  ·exact h.1
  ·exact pI h.2 hs
def nbE (m : Nat) : List (SVal × SVal) → Bool
 | [] => true
 | p :: r => nb m p.1 && nb m p.2 && nbE m r
theorem pL {m : Nat} : ∀ {l : List (SVal × SVal)} {p : SVal × SVal}, nbE m l = true → p ∈ l → nb m p.1 = true ∧ nb m p.2 = true
 | [], _, _, h => by cases h
 | t :: r, s, h, hs => by
  rw [nbE, Bool.and_eq_true, Bool.and_eq_true] at h
  rcases List.mem_cons.1 hs with rfl | hs
  ·exact h.1
  ·exact pL h.2 hs
def nbF (m : Nat) : List (Nat × SVal) → Bool
 | [] => true
 | p :: r => nb m p.2 && nbF m r
theorem pK {m : Nat} : ∀ {l : List (Nat × SVal)} {t : Nat} {s : SVal}, nbF m l = true → ba l t = some s → nb m s = true
 | [], _, _, _, h => by cases h
 | p :: r, t, s, h, hs => by
  rw [nbF, Bool.and_eq_true] at h
  rw [bI] at hs
  split at hs
  ·cases hs; exact h.1
  ·exact pK h.2 hs
def nbO (m : Nat) : aV → Bool
 | .cells l => nbL m l
 | .still l => nbL m l
 | .row _ rows _ _ => nbR m rows
 | .map es => nbE m es
 | .loop r => nbF m r.fr.t
 | .jl _ l => nbL m l
theorem dG.low {c c' : Ctx} {m : Nat} (hρ : ∀ k, k < m → c'.ρ k = c.ρ k) (hfz : c'.fz = c.fz) {o : aV} {l : Loc} {w : World} (h : nbO m o = true) (k : dG c o l w) : dG c' o l w := by
 have hf : ∀ b i v, c.fz b i = some v → c'.fz b i = some v := fun b i v e => by rw [hfz]; exact e
 cases o with
 | cells cs => cases l with
  | row => exact k.elim
  | box b =>
   obtain ⟨arr, e, h1, h2, h3⟩ := k
   exact ⟨arr, e, h1, aM.low hρ hf _ _ h h2, fun i v => by rw [hfz]; exact h3 i v⟩
 | still cs => cases l with
  | row => exact k.elim
  | box b =>
   obtain ⟨arr, e, h1, h2, h3⟩ := k
   exact ⟨arr, e, h1, aM.low hρ hf _ _ h h2, fun i v => by rw [hfz]; exact h3 i v⟩
 | row m' rows s froz => cases l with
  | box b => exact k.elim
  | row ob st sz u =>
   refine ⟨k.1, k.2.1, ?_⟩
   have h2 := k.2.2
   cases ob with
   | none => exact h2
   | some b =>
    obtain ⟨arr, e, cap, h3⟩ := h2
    refine ⟨arr, e, cap, h3.val, h3.cells, h3.size, h3.fits, fun i row hr => ⟨(h3.elems i row hr).1, fun j s hs => ?_⟩, fun i v hv => h3.fz i v (by rw [hfz] at hv; exact hv)⟩
    obtain ⟨v, h4, h5, h6⟩ := (h3.elems i row hr).2 j s hs
    exact ⟨v, h4, h5, Den.low hρ hf _ _ (pJ (pI h (List.mem_of_getElem? hr)) (List.mem_of_getElem? hs)) h6⟩
 | map es => cases l with
  | row => exact k.elim
  | box b =>
   obtain ⟨ents, clock, h1, h2, h3⟩ := k
   refine ⟨ents, clock, h1, h2, fun i p hp => ?_⟩
   obtain ⟨e, h4, h5, h6⟩ := h3 i p hp
   obtain ⟨h7, h8⟩ := pL h (List.mem_of_getElem? hp)
   exact ⟨e, h4, Den.low hρ hf _ _ h7 h5, Den.low hρ hf _ _ h8 h6⟩
 | loop r => cases l with
  | row => exact k.elim
  | box b =>
   obtain ⟨x, h1, h2⟩ := k
   exact ⟨x, h1, ⟨h2.oB.1, fun t s hs => let ⟨v, h3, h4⟩ := h2.oB.2 t s hs; ⟨v, h3, Den.low hρ hf _ _ (pK h hs) h4⟩⟩, h2.ps, h2.assign, h2.body, h2.state, h2.ji, h2.one, h2.two⟩
 | jl g cs => cases l with
  | box => exact k.elim
  | row ob st sz u =>
   obtain ⟨h0, h3, arr, e, f, h4, h1, h2⟩ := k
   exact ⟨h0, h3, arr, e, f, h4, h1, aM.low hρ hf _ _ h h2⟩
structure iF (lo : Nat) (st1 st : St) : Prop where
 next : st1.next ≤ st.next
 low : lo ≤ st1.next
 ban : st1.ban = st.ban
 mark : st1.mark = st.mark
 log : st1.log = st.log
 bans : ∀ k, bN k st.ban = true → k < st1.next
 heap : ∀ k o, ba st1.heap k = some o → ba st.heap k = some o ∧ nbO st1.next o = true ∧ k < st1.next
 same : ∀ k, k < lo → ba st1.heap k = ba st.heap k
theorem iF.look {lo : Nat} {st1 st : St} (h : iF lo st1 st) {k : Nat} {o : aV} (hk : st1.look k = some o) : st.look k = some o ∧ nbO st1.next o = true := by
 obtain ⟨h1, h2⟩ := cm hk
 obtain ⟨h3, h4, _⟩ := h.heap k o h1
 refine ⟨?_, h4⟩
 rw [look_eq, ← h.ban, h2]
 exact h3
def jo (m : Nat) (c : Ctx) : Ctx := ⟨fun k => if k < m then c.ρ k else none, c.fz⟩
theorem dp {m k : Nat} (c : Ctx) (h : k < m) : (jo m c).ρ k = c.ρ k := if_pos h
theorem iF.rep {lo : Nat} {st1 st : St} (h : iF lo st1 st) {c : Ctx} {w : World} (hr : Rep c st.look w) : Rep (jo st1.next c) st1.look w := by
 refine ⟨fun k o hk => ?_, fun k j o o' l l' r hk hj hne h1 h2 => ?_, hr.fz⟩
 ·obtain ⟨h1, h2⟩ := h.look hk
  obtain ⟨l, h3, h4⟩ := hr.cW k o h1
  exact ⟨l, (dp c (h.heap k o (cm hk).1).2.2).trans h3, h4.low (fun k hk => dp c hk) rfl h2⟩
 ·rw [dp c (h.heap k o (cm hk).1).2.2] at h1
  rw [dp c (h.heap j o' (cm hj).1).2.2] at h2
  exact hr.sep k j o o' l l' r (h.look hk).1 (h.look hj).1 hne h1 h2
theorem iF.cstep {lo : Nat} {st1 st : St} (h : iF lo st1 st) {c c' : Ctx} {w w' : World} {H' : eT} (k : dr lo (jo st1.next c) st1.look w c' H' w') : dr lo c st.look w c' H' w' := by
 have own : ∀ r, eD (jo st1.next c) st1.look r → eD c st.look r := fun r ⟨n, o, l, h1, h2, h3⟩ => ⟨n, o, l, (h.look h1).1, by rw [dp c (h.heap n o (cm h1).1).2.2] at h2; exact h2, h3⟩
 have lt : ∀ n, n < lo → n < st1.next := fun n hn => Nat.lt_of_lt_of_le hn h.low
 refine ⟨fun n l hn e => k.le n l hn (by rw [dp c (lt n hn)]; exact e), k.fz, fun n hn e => k.off n hn (by rw [dp c (lt n hn)]; exact e), fun n l hn e e' => k.hid n l hn ?_ (by rw [dp c (lt n hn)]; exact e'), k.os, k.tape, k.output, k.size, fun r hr hn => k.kept r hr fun ho => hn (own r ho), fun r ho => (k.owns r ho).imp (own r) id, fun b i v hv => (k.nfz b i v hv).imp id fun e => e.imp (own b) id⟩
 cases hx : st1.look n with
 | none => rfl
 | some o => rw [(h.look hx).1] at e; cases e
theorem iF.csta {lo : Nat} {st1 st st' : St} (h : iF lo st1 st) (k : ou lo st1 st') : ou lo st st' :=
 ⟨k.ban.trans h.ban, k.mark.trans h.mark, fun n hn => k.log n (by rw [h.log]; exact hn), fun n h1 h2 h3 => (k.same n h1 (by rw [h.mark]; exact h2) h3).trans (h.same n h1), fun n hn => by
  rcases k.vis n hn with e | e
  ·exact .inl (by rw [← h.log]; exact e)
  ·exact .inr ⟨by rw [← h.ban]; exact e.1, by rw [← h.mark]; exact e.2⟩⟩
theorem iF.wf {lo : Nat} {st1 st : St} (h : iF lo st1 st) (hm : st.mark ≤ lo) : Wf st1 :=
 ⟨fun k hk => by
  cases hx : ba st1.heap k with
  | none => rfl
  | some o => have := (h.heap k o hx).2.2; omega, fun k hk => h.bans k (by rw [← h.ban]; exact hk), by rw [h.mark]; exact Nat.le_trans hm h.low⟩
structure FrLess (m : Nat) (fr1 fr : Fr) : Prop where
 n : fr1.n = fr.n
 get : ∀ t s, fr1.get t = some s → fr.get t = some s ∧ nb m s = true
theorem W.less {P : Program} {lo : Nat} {z : Code} {fr fr1 : Fr} {st st1 : St} {Φ : Ex → Fr → St → Prop} (hf : FrLess st1.next fr1 fr) (hs : iF lo st1 st) (h : W P lo z fr1 st1 Φ) : W P lo z fr st Φ := by
 intro ro B D c w a he hr Q hq
 refine h ⟨hs.rep he.rep, hs.wf he.mark, fun k hk => if_neg (by omega), ⟨by rw [hf.n]; exact he.fr.size, fun t s ht => ?_, he.fr.defers⟩, he.mks, he.base, hs.low, by rw [hs.mark]; exact he.mark⟩ hr fun x fr' st' D' c' a' w' h1 h2 h3 h4 h5 => ?_
 ·obtain ⟨h1, h2⟩ := hf.get t s ht
  obtain ⟨v, h3, h4⟩ := he.fr.get t s h1
  exact ⟨v, h3, Den.low (fun k hk => dp c hk) (fun _ _ _ h => h) _ _ h2 h4⟩
 ·exact hq x fr' st' D' c' a' w' h1 h2 (hs.cstep h3) (hs.csta h4) (h5.trans hf.n)
theorem W.iG {P : Program} {lo : Nat} {z : Code} {fr fr1 : Fr} {st : St} {Φ : Ex → Fr → St → Prop} (hn : fr1.n = fr.n) (hf : ∀ t s, fr1.get t = some s → ∃ s', fr.get t = some s' ∧ ∀ c v, Den c s' v → Den c s v) (h : W P lo z fr1 st Φ) : W P lo z fr st Φ := by
 intro ro B D c w a he hr Q hq
 refine h ⟨he.rep, he.wf, he.dom, ⟨by rw [hn]; exact he.fr.size, fun t s ht => ?_, he.fr.defers⟩, he.mks, he.base, he.low, he.mark⟩ hr fun x fr' st' D' c' a' w' h1 h2 h3 h4 h5 => hq x fr' st' D' c' a' w' h1 h2 h3 h4 (h5.trans hn)
 obtain ⟨s', h1, h2⟩ := hf t s ht
 obtain ⟨v, h3, h4⟩ := he.fr.get t s' h1
 exact ⟨v, h3, h2 c v h4⟩
theorem lX {st : St} {k m s : Nat} {rows : List (List SVal)} {z : Bool} (hk : st.look k = some (.row m rows s z)) {c : Ctx} {w : World} (hr : Rep c st.look w) :
  ∃ c', c'.ρ = c.ρ ∧ Rep c' (st.put k (.row m rows s true)).look w ∧ Step st.next (st.put k (.row m rows s true)).next c st.look w c' (st.put k (.row m rows s true)).look w ∧ ∀ v, Den c (.own k s) v → Den c' (.lst false rows) v := by
 obtain ⟨l, h1, h2⟩ := hr.cW _ _ hk
 cases l with
 | box b => exact h2.elim
 | row ob st0 sz u =>
  obtain ⟨rfl, rfl, h2⟩ := h2
  cases ob with
  | none =>
   obtain ⟨rfl, a, rfl⟩ := h2
   obtain ⟨r1, r2⟩ := dC (o' := .row sz [] st0 true) hr hk h1 h1 (cS.refl _) (fun _ _ => rfl) (fun _ _ _ h => h) (fun _ _ _ h => .inl h) (fun r hr => .inl hr) ((cE.refl w).but _) (fun b i v hb => by cases hb) ⟨rfl, rfl, rfl, a, rfl⟩
   refine ⟨c, rfl, r1, r2, fun v hv => ?_⟩
   obtain ⟨_, ob, st1, sz1, u1, h3, _, h5⟩ := hv
   rw [h1] at h3
   cases h3
   rw [h5 rfl]
   exact .inl ⟨rfl, a, 0, rfl, fun h => by cases h⟩
  | some b =>
   obtain ⟨arr, e, cap, h3⟩ := h2
   have cell : ∀ i, w.cell? ⟨b, i, none⟩ = arr[i]? := fW h3.cells
   let c' : Ctx := ⟨c.ρ, fun b' i => if b' = b ∧ i < rows.length * sz then arr[i]? else c.fz b' i⟩
   have hle : Le c c' := ⟨fun n l e => ⟨l, e, cS.refl l⟩, fun b' i v hv => by
    show (if b' = b ∧ i < rows.length * sz then arr[i]? else c.fz b' i) = some v
    split
    ·rename_i hc
     obtain ⟨rfl, _⟩ := hc
     obtain ⟨arr2, e2, f2, h5, h6⟩ := hr.fz _ _ _ hv
     rw [h3.cells] at h5
     cases h5
     exact h6
    ·exact hv⟩
   have hnew : ∀ b' i v, c'.fz b' i = some v → c.fz b' i = some v ∨ some b = some b' := fun b' i v hv => by
    have hv : (if b' = b ∧ i < rows.length * sz then arr[i]? else c.fz b' i) = some v := hv
    split at hv
    ·rename_i hc; exact .inr (by rw [hc.1])
    ·exact .inl hv
   have hin : ∀ i v, c'.fz b i = some v → arr[i]? = some v ∧ i < rows.length * sz := fun i v hv => by
    have hv : (if b = b ∧ i < rows.length * sz then arr[i]? else c.fz b i) = some v := hv
    split at hv
    ·rename_i hc; exact ⟨hv, hc.2⟩
    ·obtain ⟨arr2, e2, f2, h5, h6⟩ := hr.fz _ _ _ hv
     rw [h3.cells] at h5
     cases h5
     exact ⟨h6, (h3.fz i v hv).2⟩
   obtain ⟨r1, r2⟩ := dC (o' := .row sz rows st0 true) (c' := c') hr hk h1 h1 (cS.refl _) (fun _ _ => rfl) hle.fz hnew (fun r hr => .inl hr) ((cE.refl w).but _) (fun b' i v hb hv => by cases hb; exact ⟨arr, e, _, h3.cells, (hin i v hv).1⟩)
    ⟨rfl, rfl, arr, e, cap, h3.val, h3.cells, h3.size, h3.fits, h3.elems.le hle, fun i v hv => ⟨rfl, (hin i v hv).2⟩⟩
   refine ⟨c', rfl, r1, r2, fun v hv => ?_⟩
   obtain ⟨_, ob, st1, sz1, u1, h4, _, h5⟩ := hv
   rw [h1] at h4
   cases h4
   rw [h5 rfl, h3.val]
   refine .inr ⟨b, 0, sz, cap, rfl, h3.fits, (fun h => by cases h), bp.of fun i row hrow => ⟨(h3.elems i row hrow).1, bF.of fun j t ht => ?_⟩⟩
   obtain ⟨x, h6, h7, h8⟩ := (h3.elems i row hrow).2 j t ht
   refine ⟨x, ?_, h7, Den.le hle _ _ h8⟩
   have hi : i < rows.length := (List.getElem?_eq_some_iff.1 hrow).1
   have hj : j < sz := by rw [← (h3.elems i row hrow).1]; exact (List.getElem?_eq_some_iff.1 ht).1
   have hm : (i + 1) * sz ≤ rows.length * sz := Nat.mul_le_mul_right _ hi
   rw [Nat.add_mul, Nat.one_mul] at hm
   show (if b = b ∧ 0 + i * sz + j < rows.length * sz then arr[0 + i * sz + j]? else _) = _
   rw [if_pos ⟨rfl, by omega⟩, Nat.zero_add]
   exact h6
theorem tH {st : St} {k : Nat} {l l' : List SVal} (hk : st.look k = some (.cells l)) {c : Ctx} {w : World} (hr : Rep c st.look w) (hf : oR l') (hd : ∀ (b : Nat) (arr : Array Value) (e : TypeId), c.ρ k = some (.box b) → w.heap[b]? = some (.cells arr e (0, 0)) → aM c l' arr.toList) :
  ∃ c', c'.ρ = c.ρ ∧ Rep c' (st.put k (.still l')).look w ∧ Step st.next (st.put k (.still l')).next c st.look w c' (st.put k (.still l')).look w ∧ ∀ off v, Den c (.ptr k off) v → Den c' (.bA l' off) v := by
 obtain ⟨lc, h1, h2⟩ := hr.cW _ _ hk
 cases lc with
 | row => exact h2.elim
 | box b =>
  obtain ⟨arr, e, h3, h4, h5⟩ := h2
  have h4 := hd _ _ _ h1 h3
  let c' : Ctx := ⟨c.ρ, fun b' i => if b' = b then arr[i]? else c.fz b' i⟩
  have hle : Le c c' := ⟨fun n l e => ⟨l, e, cS.refl l⟩, fun b' i v hv => by
   show (if b' = b then arr[i]? else c.fz b' i) = some v
   split
   ·rename_i hc
    subst hc
    exact (h5 i v hv).elim
   ·exact hv⟩
  have hnew : ∀ b' i v, c'.fz b' i = some v → c.fz b' i = some v ∨ some b = some b' := fun b' i v hv => by
   have hv : (if b' = b then arr[i]? else c.fz b' i) = some v := hv
   split at hv
   ·rename_i hc; exact .inr (by rw [hc])
   ·exact .inl hv
  have hin : ∀ (i : Nat) (v : Value), arr[i]? = some v → c'.fz b i = some v := fun i v hv => by
   show (if b = b then arr[i]? else c.fz b i) = some v
   rw [if_pos rfl]
   exact hv
  obtain ⟨r1, r2⟩ := dC (o' := .still l') (c' := c') hr hk h1 h1 (cS.refl _) (fun _ _ => rfl) hle.fz hnew (fun r hr => .inl hr) ((cE.refl w).but _) (fun b' i v hb hv => by
    cases hb
    have hv : (if b = b then arr[i]? else c.fz b i) = some v := hv
    rw [if_pos rfl] at hv
    exact ⟨arr, e, _, h3, hv⟩)
   ⟨arr, e, h3, aM.le hle _ _ h4, hin⟩
  refine ⟨c', rfl, r1, r2, fun off v hv => ?_⟩
  obtain ⟨b2, h6, rfl⟩ := hv
  rw [h1] at h6
  cases h6
  refine ⟨b, 0, by rw [Nat.zero_add], bF.of fun j s hs => ?_⟩
  obtain ⟨u, h7, h8⟩ := h4.get hs
  have h7 : arr[j]? = some u := by simpa using h7
  refine ⟨u, by rw [Nat.zero_add]; exact hin j u h7, kU (hf s (List.mem_of_getElem? hs)) h8, Den.le hle _ _ h8⟩
theorem still_den {st : St} {k : Nat} {l : List SVal} (hk : st.look k = some (.still l)) {c : Ctx} {w : World} (hr : Rep c st.look w) (hf : oR l) {off : Nat} {v : Value} (hv : Den c (.ptr k off) v) : Den c (.bA l off) v := by
 obtain ⟨lc, h1, h2⟩ := hr.cW _ _ hk
 cases lc with
 | row => exact h2.elim
 | box b =>
  obtain ⟨arr, e, h3, h4, h5⟩ := h2
  obtain ⟨b2, h6, rfl⟩ := hv
  rw [h1] at h6
  cases h6
  refine ⟨b, 0, by rw [Nat.zero_add], bF.of fun j s hs => ?_⟩
  obtain ⟨u, h7, h8⟩ := h4.get hs
  have h7 : arr[j]? = some u := by simpa using h7
  exact ⟨u, by rw [Nat.zero_add]; exact h5 j u h7, kU (hf s (List.mem_of_getElem? hs)) h8, h8⟩
def Call1 (P : Program) (f : FuncId) (args : Array Value) (w : World) (R : Value → World → Prop) : Prop :=
 ∀ (o : Oper) (a : Act) (next : Act → World → Prop) (Q : Exit → Act → World → Prop), (∀ v w', R v w' → next (a.put o.dst v) w') → o.uponIn Fence.wide 0 P a next Q ((callFunc f args).run P w)
theorem oa {P : Program} {f : FuncId} {fn : Func} {body : Code} (hf : P.funcs[f]? = some fn) (hn : (fn.name == "runtime.NumGoroutine") = false) (hb : fn.body = some body) (args : Array Value) (w : World) : (callFunc f args).run P w = .ok (.enter f args) w := by
 simp only [callFunc, Sem.run_bind, run_program, Result.andThen_ok, hf, hn, hb]
 rfl
theorem dR {P : Program} {f : FuncId} {fn : Func} {body : Code} (hf : P.funcs[f]? = some fn) (hn : (fn.name == "runtime.NumGoroutine") = false) (hb : fn.body = some body) {args : Array Value} {w : World} {R : Value → World → Prop}
  (h : Calls P f args w fun e w' => ∃ v, e = .returned v ∧ R v w') : Call1 P f args w R := by
 intro o a next Q hk
 rw [oa hf hn hb, Oper.uponIn_enter]
 refine ⟨fun h => (by cases h), callsIn_wide.2 (h.mono fun e w' ⟨v, he, hr⟩ => ?_)⟩
 subst he
 exact hk v w' hr
def HasBody (P : Program) (f : FuncId) : Prop := ∃ fn body, P.funcs[f]? = some fn ∧ (fn.name == "runtime.NumGoroutine") = false ∧ fn.body = some body
structure fB (P : Program) (f : FuncId) (args : List SVal) (st : St) (s : SVal) (st' : St) : Prop where
 body : HasBody P f
 sta : Sta st st'
 ok : ∀ {c : Ctx} {w : World}, Rep c st.look w → Wf st → mc c st.next st'.next → ∀ {vs : List Value}, aM c args vs → Calls P f vs.toArray w fun e w' => ∃ v, e = .returned v ∧ ∃ c', Good st st' s c w c' v w'
section
variable {P : Program} {E : Env} {o : Oper} {ev : Evl} {st st' : St}
theorem gh {e : Operand → Value} {d : Go.Call} {fop : Operand} {f : FuncId} {first cap : List SVal} {ss : List SVal} {c : Ctx} (ho : o.op = .call d) (hc : d.callee = .value fop) (hf : ev fop = some (.func (.func f) first cap)) (hev : evs ev d.args.toList = some ss)
  (he : ∀ x ∈ o.op.operands.toList, ∀ s, ev x = some s → Den c s (e x)) : ∃ vs, aM c (first ++ (ss ++ cap)) vs ∧ ∀ w, (execOp e o).run P w = (callFunc f vs.toArray).run P w := by
 have mem : ∀ x, x ∈ d.args.toList → ∀ s, ev x = some s → Den c s (e x) := fun x hx => he x (by
  rw [ho]
  show x ∈ (_ ++ d.args).toList
  rw [Array.toList_append]
  exact List.mem_append_right _ hx)
 obtain ⟨x, y, h1, h2, h3⟩ := he fop (by simp [ho, Op.operands, Go.Call.operands, hc]) _ hf
 refine ⟨x ++ (d.args.toList.map e ++ y), aM.append.2 ⟨_, _, h1, aM.append.2 ⟨_, _, kX mem hev, h2, rfl⟩, rfl⟩, fun w => ?_⟩
 simp only [execOp, ho, Sem.run_bind, resolve, hc, h3, Deferred.ofValue, Sem.run_pure, Result.andThen_ok, invoke]
 congr 2
 simp
theorem hZ {d : Go.Call} {fop : Operand} {f : FuncId} {first cap ss : List SVal} {s : SVal} (ho : o.op = .call d) (hc : d.callee = .value fop) (hf : ev fop = some (.func (.func f) first cap)) (hev : evs ev d.args.toList = some ss) (h : fB P f (first ++ (ss ++ cap)) st s st') : bg P o ev st s st' :=
 ⟨by simp [ho], h.sta, fun {c w} hr hwf hfr {e} he a next Q hn => by
  obtain ⟨vs, h1, h2⟩ := gh (P := P) ho hc hf hev he
  obtain ⟨fn, body, g1, g2, g3⟩ := h.body
  rw [h2]
  exact dR g1 g2 g3 (h.ok hr hwf hfr h1) o a next Q fun v w' ⟨c', hg⟩ => hn c' v w' hg⟩
end
mutual
def iG : SVal → SVal
 | .az => .lst false []
 | .lst _ rows => .lst false rows
 | .agg l => .agg (cg l)
 | s => s
def cg : List SVal → List SVal
 | [] => []
 | s :: r => iG s :: cg r
end
mutual
theorem p8 {c : Ctx} : ∀ (s : SVal) (v : Value), Den c s v → Den c (iG s) v
 | .az, v, h => .inl ⟨rfl, none, 0, h, fun h => by cases h⟩
 | .lst f rows, v, h => by
  rcases h with ⟨h1, a, cap, h2, _⟩ | ⟨b, base, size, cap, h1, h2, _, h3⟩
  ·exact .inl ⟨h1, a, cap, h2, fun h => by cases h⟩
  ·exact .inr ⟨b, base, size, cap, h1, h2, (fun h => by cases h), h3⟩
 | .agg l, v, ⟨vs, h1, h2⟩ => ⟨vs, eY l vs h1, h2⟩
 | .bool _, _, h => h
 | .int _ _, _, h => h
 | .str _, _, h => h
 | .nilPtr, _, h => h
 | .ptr _ _, _, h => h
 | .ec _ _ _ _, _, h => h
 | .bA _ _, _, h => h
 | .own _ _, _, h => h
 | .dy, _, h => h
 | .map _, _, h => h
 | .func _ _ _, _, h => h
 | .eE, _, h => h
 | .nilIface, _, h => h
 | .iface _ _, _, h => h
 | .tup _, _, h => h
theorem eY {c : Ctx} : ∀ (l : List SVal) (vs : List Value), aM c l vs → aM c (cg l) vs
 | [], _, h => h
 | s :: r, _, ⟨v, l, h1, h2, h3⟩ => ⟨v, l, p8 s v h1, eY r l h2, h3⟩
end
inductive FzL : St → List SVal → List SVal → St → Prop where
 | nil {st : St} : FzL st [] [] st
 | same {st st' : St} {s : SVal} {r r' : List SVal} : FzL st r r' st' → FzL st (s :: r) (s :: r') st'
 | az {st st' : St} {r r' : List SVal} : FzL st r r' st' → FzL st (.az :: r) (.lst false [] :: r') st'
 | lst {st st' : St} {f : Bool} {rows : List (List SVal)} {r r' : List SVal} : FzL st r r' st' → FzL st (.lst f rows :: r) (.lst false rows :: r') st'
 | own {st st' : St} {k m s : Nat} {rows : List (List SVal)} {z : Bool} {r r' : List SVal} : st.look k = some (.row m rows s z) → FzL (st.put k (.row m rows s true)) r r' st' → FzL st (.own k s :: r) (.lst false rows :: r') st'
 | agg {st st1 st' : St} {l l' r r' : List SVal} : FzL st l l' st1 → FzL st1 r r' st' → FzL st (.agg l :: r) (.agg l' :: r') st'
 | ptr {st st1 st' : St} {k off : Nat} {l l' r r' : List SVal} : st.look k = some (.cells l) → FzL st l l' st1 → st1.look k = some (.cells l) → eL l' = true → FzL (st1.put k (.still l')) r r' st' → FzL st (.ptr k off :: r) (.bA l' off :: r') st'
 | still {st st' : St} {k off : Nat} {l r r' : List SVal} : st.look k = some (.still l) → eL l = true → FzL st r r' st' → FzL st (.ptr k off :: r) (.bA l off :: r') st'
 | func {st st1 st2 st' : St} {f : FuncId} {x x' y y' r r' : List SVal} : FzL st x x' st1 → FzL st1 y y' st2 → FzL st2 r r' st' → FzL st (.func (.func f) x y :: r) (.func (.func f) x' y' :: r') st'
theorem FzL.sta {st st' : St} {l l' : List SVal} (h : FzL st l l' st') : Sta st st' ∧ st'.next = st.next := by
 induction h with
 | nil => exact ⟨Sta.refl _, rfl⟩
 | same _ ih => exact ih
 | az _ ih => exact ih
 | lst _ ih => exact ih
 | own hk _ ih => exact ⟨(cL _ hk).trans ih.1, ih.2⟩
 | agg _ _ ih1 ih2 => exact ⟨ih1.1.trans ih2.1, ih2.2.trans ih1.2⟩
 | ptr _ _ hk _ _ ih1 ih2 => exact ⟨ih1.1.trans ((cL _ hk).trans ih2.1), ih2.2.trans ih1.2⟩
 | still _ _ _ ih => exact ih
 | func _ _ _ ih1 ih2 ih3 => exact ⟨ih1.1.trans (ih2.1.trans ih3.1), ih3.2.trans (ih2.2.trans ih1.2)⟩
theorem FzL.ok {st st' : St} {l l' : List SVal} (h : FzL st l l' st') {w : World} : ∀ {c : Ctx}, Rep c st.look w → ∀ {vs : List Value}, aM c l vs → ∃ c', c'.ρ = c.ρ ∧ Rep c' st'.look w ∧ Step st.next st'.next c st.look w c' st'.look w ∧ aM c' l' vs := by
 induction h with
 | nil => exact fun {c} hr _ hd => ⟨c, rfl, hr, Step.refl _ _ _ _, hd⟩
 | same _ ih =>
  rintro c hr vs ⟨v, l, h1, h2, rfl⟩
  obtain ⟨c', e, h3, h4, h5⟩ := ih hr h2
  exact ⟨c', e, h3, h4, v, l, Den.le h4.le _ _ h1, h5, rfl⟩
 | az _ ih =>
  rintro c hr vs ⟨v, l, h1, h2, rfl⟩
  obtain ⟨c', e, h3, h4, h5⟩ := ih hr h2
  exact ⟨c', e, h3, h4, v, l, p8 .az v h1, h5, rfl⟩
 | lst _ ih =>
  rintro c hr vs ⟨v, l, h1, h2, rfl⟩
  obtain ⟨c', e, h3, h4, h5⟩ := ih hr h2
  exact ⟨c', e, h3, h4, v, l, Den.le h4.le _ _ (p8 (.lst _ _) v h1), h5, rfl⟩
 | own hk h ih =>
  rintro c hr vs ⟨v, l, h1, h2, rfl⟩
  obtain ⟨c1, e1, r1, s1, d1⟩ := lX hk hr
  obtain ⟨c', e, h3, h4, h5⟩ := ih r1 (aM.le s1.le _ _ h2)
  exact ⟨c', e.trans e1, h3, s1.trans h4 (Nat.le_refl _) (Nat.le_of_eq h.sta.2.symm), v, l, Den.le h4.le _ _ (d1 v h1), h5, rfl⟩
 | agg ha hb ih1 ih2 =>
  rintro c hr vs ⟨v, l, ⟨xs, h1, rfl⟩, h2, rfl⟩
  obtain ⟨c1, e1, r1, s1, d1⟩ := ih1 hr h1
  obtain ⟨c', e, h3, h4, h5⟩ := ih2 r1 (aM.le s1.le _ _ h2)
  exact ⟨c', e.trans e1, h3, s1.trans h4 ha.sta.1.next hb.sta.1.next, _, l, ⟨xs, aM.le h4.le _ _ d1, rfl⟩, h5, rfl⟩
 | ptr h0 ha hk hf hb ih1 ih2 =>
  rintro c hr vs ⟨v, vl, h1, h2, rfl⟩
  obtain ⟨lc, g1, g2⟩ := hr.cW _ _ h0
  cases lc with
  | row => exact g2.elim
  | box b =>
   obtain ⟨arr, e, g3, g4, _⟩ := g2
   obtain ⟨c1, e1, r1, s1, d1⟩ := ih1 hr g4
   obtain ⟨c2, e2, r2, s2, d2⟩ := tH hk r1 (fJ hf) fun b' arr' e' h3 h4 => by
    rw [e1, g1] at h3
    cases h3
    rw [g3] at h4
    cases h4
    exact d1
   obtain ⟨c', e3, h4, h5, h6⟩ := ih2 r2 (aM.le s2.le _ _ (aM.le s1.le _ _ h2))
   exact ⟨c', e3.trans (e2.trans e1), h4, (s1.trans s2 ha.sta.1.next (Nat.le_refl _)).trans h5 (Nat.le_trans ha.sta.1.next (Nat.le_refl _)) hb.sta.1.next, v, vl, Den.le h5.le _ _ (d2 _ v (Den.le s1.le _ _ h1)), h6, rfl⟩
 | still hk hf _ ih =>
  rintro c hr vs ⟨v, l, h1, h2, rfl⟩
  obtain ⟨c', e, h3, h4, h5⟩ := ih hr h2
  exact ⟨c', e, h3, h4, v, l, Den.le h4.le _ _ (still_den hk hr (fJ hf) h1), h5, rfl⟩
 | func ha hb hc ih1 ih2 ih3 =>
  rintro c hr vs ⟨v, l, ⟨xs, ys, h1, h2, rfl⟩, h3, rfl⟩
  obtain ⟨c1, e1, r1, s1, d1⟩ := ih1 hr h1
  obtain ⟨c2, e2, r2, s2, d2⟩ := ih2 r1 (aM.le s1.le _ _ h2)
  obtain ⟨c', e, h4, h5, h6⟩ := ih3 r2 (aM.le s2.le _ _ (aM.le s1.le _ _ h3))
  exact ⟨c', e.trans (e2.trans e1), h4, (s1.trans s2 ha.sta.1.next hb.sta.1.next).trans h5 (Nat.le_trans ha.sta.1.next hb.sta.1.next) hc.sta.1.next, _, l, ⟨xs, ys, aM.le h5.le _ _ (aM.le s2.le _ _ d1), aM.le h5.le _ _ d2, rfl⟩, h6, rfl⟩
def FzOk (fz : Nat → Nat → Option Value) (w : World) : Prop := ∀ b i v, fz b i = some v → ∃ arr e f, w.heap[b]? = some (.cells arr e f) ∧ arr[i]? = some v
def bare (fz : Nat → Nat → Option Value) : Ctx := ⟨fun _ => none, fz⟩
def Aft (fz : Nat → Nat → Option Value) (w : World) (s : SVal) (v : Value) (w' : World) : Prop :=
 ∃ fz', (∀ b i v, fz b i = some v → fz' b i = some v) ∧ (∀ b i v, fz' b i = some v → fz b i = some v ∨ w.heap.size ≤ b) ∧ FzOk fz' w' ∧ cE w w' ∧ Den (bare fz') s v
structure iY (P : Program) (f : FuncId) (args : List SVal) (s : SVal) : Prop where
 body : HasBody P f
 cargs : aw args = true
 cres : closed s = true
 ok : ∀ {fz : Nat → Nat → Option Value} {w : World} {vs : List Value}, FzOk fz w → aM (bare fz) args vs → Calls P f vs.toArray w fun e w' => ∃ v, e = .returned v ∧ Aft fz w s v w'
theorem iu {st : St} {c : Ctx} {w w' : World} {fz' : Nat → Nat → Option Value} (hr : Rep c st.look w) (g : cE w w') (h1 : ∀ b i v, c.fz b i = some v → fz' b i = some v) (h2 : ∀ b i v, fz' b i = some v → c.fz b i = some v ∨ w.heap.size ≤ b) (h3 : FzOk fz' w') :
  Rep ⟨c.ρ, fz'⟩ st.look w' ∧ Step st.next st.next c st.look w ⟨c.ρ, fz'⟩ st.look w' := by
 have hle : Le c ⟨c.ρ, fz'⟩ := ⟨fun _ l h => ⟨l, h, cS.refl l⟩, h1⟩
 refine ⟨⟨fun k o hk => ?_, hr.sep, h3⟩, ⟨hle, fun _ _ h => h, fun _ _ h h' => ⟨h, h'⟩, g.os, g.tape, g.output, g.size, fun r hr' _ => g.old r hr', fun _ h => .inl h, fun b i v hv => (h2 b i v hv).imp id .inr⟩⟩
 obtain ⟨l, h4, h5⟩ := hr.cW k o hk
 refine ⟨l, h4, h5.pk hle (fun b hb => g.old b (h5.lt hb)) fun b hb i v hv => ?_⟩
 rcases h2 b i v hv with h | h
 ·exact h
 ·have := h5.lt hb; omega
section
variable {P : Program} {E : Env} {o : Oper} {ev : Evl} {st st' : St}
theorem sem_pure {d : Go.Call} {fop : Operand} {f : FuncId} {first cap ss args : List SVal} {s : SVal} (ho : o.op = .call d) (hc : d.callee = .value fop) (hf : ev fop = some (.func (.func f) first cap)) (hev : evs ev d.args.toList = some ss) (ha : cg (first ++ (ss ++ cap)) = args) (h : iY P f args s) : bg P o ev st s st :=
 ⟨by simp [ho], Sta.refl _, fun {c w} hr hwf hfr {e} he a next Q hn => by
  obtain ⟨vs, h1, h2⟩ := gh (P := P) ho hc hf hev he
  obtain ⟨fn, body, g1, g2, g3⟩ := h.body
  rw [h2]
  have hd : aM (bare c.fz) args vs := aM.free (c := c) (c' := bare c.fz) (fun _ _ _ h => h) _ _ h.cargs (ha ▸ eY _ _ h1)
  refine dR g1 g2 g3 (h.ok hr.fz hd) o a next Q fun v w' ⟨fz', h4, h5, h6, h7, h8⟩ => ?_
  obtain ⟨r1, s1⟩ := iu hr h7 h4 h5 h6
  exact hn ⟨c.ρ, fz'⟩ v w' ⟨Den.free (c := bare fz') (c' := ⟨c.ρ, fz'⟩) (fun _ _ _ h => h) _ _ h.cres h8, r1, s1⟩⟩
theorem vf {d : Go.Call} {fop : Operand} {f : FuncId} {first cap ss args : List SVal} {s : SVal} (ho : o.op = .call d) (hc : d.callee = .value fop) (hf : ev fop = some (.func (.func f) first cap)) (hev : evs ev d.args.toList = some ss) (ha : FzL st (first ++ (ss ++ cap)) args st') (h : iY P f args s) : bg P o ev st s st' :=
 ⟨by simp [ho], ha.sta.1, fun {c w} hr hwf hfr {e} he a next Q hn => by
  obtain ⟨vs, h1, h2⟩ := gh (P := P) ho hc hf hev he
  obtain ⟨fn, body, g1, g2, g3⟩ := h.body
  rw [h2]
  obtain ⟨c1, e1, r1, s1, d1⟩ := ha.ok hr h1
  have hd : aM (bare c1.fz) args vs := aM.free (c := c1) (c' := bare c1.fz) (fun _ _ _ h => h) _ _ h.cargs d1
  refine dR g1 g2 g3 (h.ok r1.fz hd) o a next Q fun v w' ⟨fz', h4, h5, h6, h7, h8⟩ => ?_
  obtain ⟨r2, s2⟩ := iu r1 h7 h4 h5 h6
  exact hn ⟨c1.ρ, fz'⟩ v w' ⟨Den.free (c := bare fz') (c' := ⟨c1.ρ, fz'⟩) (fun _ _ _ h => h) _ _ h.cres h8, r2, s1.trans s2 ha.sta.1.next (Nat.le_refl _)⟩⟩
mutual
def pF : SVal → Bool
 | .bool _ => true
 | .int _ _ => true
 | .str _ => true
 | .az => true
 | .agg l => jD l
 | .tup l => jD l
 | _ => false
def jD : List SVal → Bool
 | [] => true
 | s :: r => pF s && jD r
end
mutual
theorem oF {c c' : Ctx} : ∀ (s : SVal) (v : Value), pF s = true → Den c s v → Den c' s v
 | .bool _, _, _, h => h
 | .int _ _, _, _, h => h
 | .str _, _, _, h => h
 | .az, _, _, h => h
 | .agg l, _, k, ⟨vs, h1, h2⟩ => ⟨vs, iM l vs k h1, h2⟩
 | .tup l, _, k, ⟨vs, h1, h2⟩ => ⟨vs, iM l vs k h1, h2⟩
theorem iM {c c' : Ctx} : ∀ (l : List SVal) (vs : List Value), jD l = true → aM c l vs → aM c' l vs
 | [], _, _, h => h
 | s :: r, _, k, ⟨v, l, h1, h2, h3⟩ => by
  rw [jD, Bool.and_eq_true] at k
  exact ⟨v, l, oF s v k.1 h1, iM r l k.2 h2, h3⟩
end
theorem sV {d : Go.Call} {fop : Operand} {f : FuncId} {first cap ss args : List SVal} {s : SVal} (ho : o.op = .call d) (hc : d.callee = .value fop) (hf : ev fop = some (.func (.func f) first cap)) (hev : evs ev d.args.toList = some ss) (ha : FzL st (first ++ (ss ++ cap)) args st') (hs : pF s = true) (h : iY P f args s) : bg P o ev st s st :=
 ⟨by simp [ho], Sta.refl _, fun {c w} hr hwf hfr {e} he a next Q hn => by
  obtain ⟨vs, h1, h2⟩ := gh (P := P) ho hc hf hev he
  obtain ⟨fn, body, g1, g2, g3⟩ := h.body
  rw [h2]
  obtain ⟨c1, e1, r1, s1, d1⟩ := ha.ok hr h1
  have hd : aM (bare c1.fz) args vs := aM.free (c := c1) (c' := bare c1.fz) (fun _ _ _ h => h) _ _ h.cargs d1
  refine dR g1 g2 g3 (h.ok r1.fz hd) o a next Q fun v w' ⟨fz', h4, h5, h6, h7, h8⟩ => ?_
  obtain ⟨r2, s2⟩ := iu (fz' := c.fz) hr h7 (fun _ _ _ h => h) (fun _ _ _ h => .inl h) fun b i v hv => h6 b i v (h4 b i v (s1.le.fz b i v hv))
  exact hn ⟨c.ρ, c.fz⟩ v w' ⟨oF _ _ hs h8, r2, s2⟩⟩
end
theorem mJ {P : Program} {fn : Func} {tmps : Array Value} {R : Ending → World → Prop} : ∀ (bs : List Nat) (W : World), bs.Nodup → (∀ b ∈ bs, W.heap[b]? = some (.deferred (some []))) →
  (∀ W' : World, W'.os = W.os → W'.tape = W.tape → W'.output = W.output → W'.heap.size = W.heap.size → (∀ r, r ∉ bs → W'.heap[r]? = W.heap[r]?) → LeavesIn Fence.wide 0 P fn tmps R [] .returning W') →
  LeavesInM Fence.wide 0 P fn tmps R (bs.map nR) .returning W
 | [], W, _, _, h => h W rfl rfl rfl rfl fun _ _ => rfl
 | b :: bs, W, hn, hd, h => by
  obtain ⟨n1, n2⟩ := List.nodup_cons.1 hn
  refine ⟨by simp, .inl ⟨b, W.putObj b (.deferred none), rfl, run_takeDeferred (hd b (.head _)), mJ bs _ n2 (fun b' hb' => ?_) fun W' e1 e2 e3 e4 e5 => ?_⟩⟩
  ·have hne : b' ≠ b := fun e => n1 (e ▸ hb')
   exact (World.putObj_heap_other (by omega)).trans (hd b' (.tail _ hb'))
  ·refine h W' e1 e2 e3 (e4.trans (by simp [World.putObj])) fun r hr => ?_
   have hne : r ≠ b := fun e => hr (e ▸ .head _)
   exact (e5 r fun hm => hr (.tail _ hm)).trans (World.putObj_heap_other (by omega))
theorem marks_rep {lo : Nat} {c0 c : Ctx} {H0 H : eT} {w0 w W : World} (hr : Rep c H w) (hs : dr lo c0 H0 w0 c H w) {bs : List Nat} (hb : ∀ b ∈ bs, w0.heap.size ≤ b ∧ w.heap[b]? = some (.deferred (some [])))
  (e1 : W.os = w.os) (e2 : W.tape = w.tape) (e3 : W.output = w.output) (e4 : W.heap.size = w.heap.size) (e5 : ∀ r, r ∉ bs → W.heap[r]? = w.heap[r]?) : Rep c H W ∧ dr lo c0 H0 w0 c H W := by
 refine ⟨⟨fun k o hk => ?_, hr.sep, fun b i v hv => ?_⟩, ⟨hs.le, hs.fz, hs.off, hs.hid, e1.trans hs.os, e2.trans hs.tape, e3.trans hs.output, by rw [e4]; exact hs.size, fun r h1 h2 => (e5 r fun hm => by have := (hb r hm).1; omega).trans (hs.kept r h1 h2), hs.owns, hs.nfz⟩⟩
 ·obtain ⟨l, h1, h2⟩ := hr.cW k o hk
  refine ⟨l, h1, h2.pk (Le.refl c) (fun b hlb => e5 _ fun hm => ?_) fun _ _ _ _ h => h⟩
  obtain ⟨y, h3, h4⟩ := oM h2 hlb
  rw [(hb b hm).2] at h3
  cases h3
  exact h4 _ rfl
 ·obtain ⟨arr, e, f, h1, h2⟩ := hr.fz b i v hv
  refine ⟨arr, e, f, (e5 b fun hm => ?_).trans h1, h2⟩
  rw [(hb b hm).2] at h1
  cases h1
inductive mb (E : Env) (fr : Fr) (st : St) : List ResultVar → List SVal → Prop where
 | nil : mb E fr st [] []
 | tmp {t : Nat} {s : SVal} {l : List ResultVar} {ss : List SVal} : fr.get t = some s → mb E fr st l ss → mb E fr st (.tmp t :: l) (s :: ss)
 | cell {b : Nat} {t : TypeId} {p s : SVal} {cs : List SVal} {l : List ResultVar} {ss : List SVal} : fr.get b = some p → iZ st p cs → oP E t cs = some s → mb E fr st l ss → mb E fr st (.cell b t :: l) (s :: ss)
def tN (tmps : Array Value) : ResultVar → Sem Value
 | .tmp t => pure (tmps.getD t undef)
 | .cell b t => do loadVar t (← asAddr (tmps.getD b undef))
theorem results_eq (fn : Func) (tmps : Array Value) : results fn tmps = (do
  let vs ← fn.results.mapM (tN tmps)
  pure (if h : vs.size = 1 then vs[0] else .tuple vs) : Sem Value) := by
 unfold results
 refine congrArg (fun f => (fn.results.mapM f >>= fun vs => pure (if h : vs.size = 1 then vs[0] else .tuple vs) : Sem Value)) (funext fun x => ?_)
 cases x <;> rfl
theorem mb.ok {D : List Deferred} {P : Program} {E : Env} (hE : a7 P E) {fr : Fr} {st : St} {l : List ResultVar} {ss : List SVal} (h : mb E fr st l ss) {c : Ctx} {w : World} {a : Act} (hr : Rep c st.look w) (hf : jb D c fr a) :
  ∃ vs, aM c ss vs ∧ (l.mapM (tN a.tmps)).run P w = .ok vs w := by
 induction h with
 | nil => exact ⟨[], rfl, rfl⟩
 | tmp h1 _ ih =>
  rename_i t s l ss _
  obtain ⟨vs, h2, h3⟩ := ih
  obtain ⟨v, h4, h5⟩ := hf.get _ _ h1
  refine ⟨v :: vs, ⟨v, vs, h5, h2, rfl⟩, ?_⟩
  rw [List.mapM_cons]
  have : (tN a.tmps (.tmp t)).run P w = .ok v w := by simp [tN, Array.getD_eq_getD_getElem?, h4]
  simp only [Sem.run_bind, Result.andThen_ok, this, h3, Sem.run_pure]
 | cell h1 h6 h7 _ ih =>
  rename_i bb tt p s cs l ss _
  obtain ⟨vs, h2, h3⟩ := ih
  obtain ⟨u, h4, h5⟩ := hf.get _ _ h1
  obtain ⟨b, off, rfl, h8⟩ := h6.spec hr h5
  obtain ⟨v, h9, h10⟩ := rb (P := P) hE h8 h7
  refine ⟨v :: vs, ⟨v, vs, h9, h2, rfl⟩, ?_⟩
  rw [List.mapM_cons]
  have : (tN a.tmps (.cell bb tt)).run P w = .ok v w := by simp only [tN, Array.getD_eq_getD_getElem?, h4, Option.getD_some, asAddr, Sem.run_bind, Sem.run_pure, Result.andThen_ok, h10]
  simp only [Sem.run_bind, Result.andThen_ok, this, h3, Sem.run_pure]
def lI : List SVal → SVal
 | [v] => v
 | vs => .tup vs
theorem resV_den {c : Ctx} {ss : List SVal} {vs : List Value} (h : aM c ss vs) : Den c (lI ss) (if h : vs.toArray.size = 1 then vs.toArray[0] else .tuple vs.toArray) := by
 match ss, h with
 | [], h => cases h; exact ⟨[], rfl, rfl⟩
 | [s], ⟨v, l, h1, h2, h3⟩ =>
  cases h2
  subst h3
  exact h1
 | s :: s2 :: r, ⟨v, l, h1, ⟨v2, l2, h3, h4, h5⟩, h6⟩ =>
  subst h5 h6
  have : ¬ ((v :: v2 :: l2).toArray.size = 1) := by simp
  rw [dif_neg this]
  exact ⟨_, ⟨v, _, h1, ⟨v2, l2, h3, h4, rfl⟩, rfl⟩, rfl⟩
def oW : Ex → Bool
 | .exit _ => false
 | _ => true
def argF : Nat → List SVal → List (Nat × SVal)
 | _, [] => []
 | i, s :: r => (i, s) :: argF (i + 1) r
theorem zu : ∀ {l : List SVal} {i t : Nat} {s : SVal}, ba (argF i l) t = some s → i ≤ t ∧ l[t - i]? = some s
 | [], _, _, _, h => by cases h
 | x :: r, i, t, s, h => by
  rw [argF, bI] at h
  split at h
  ·rename_i e
   cases h
   have e : i = t := e
   subst e
   simp
  ·rename_i e
   have e : ¬ i = t := e
   obtain ⟨h1, h2⟩ := zu h
   refine ⟨by omega, ?_⟩
   rw [show t - i = (t - (i + 1)) + 1 by omega]
   simpa using h2
noncomputable def entry (fn : Func) (args : List SVal) : Fr := ⟨args.length + (fn.ntmps - args.length), argF 0 args⟩
theorem su {P : Program} {E : Env} (hE : a7 P E) {f : FuncId} {fn : Func} (hf : E.funcs.get f = some fn) {body : Code} (hb : fn.body = some body) {lo : Nat} {args : List SVal} {st : St} {Φ : Ex → Fr → St → Prop} (h : W P lo body (entry fn args) st Φ)
  {c : Ctx} {w : World} (hr : Rep c st.look w) (hwf : Wf st) (hdom : ∀ k, st.next ≤ k → c.ρ k = none) (hlo : lo ≤ st.next) (hm : st.mark ≤ lo) {vs : List Value} (hd : aM c args vs) {R : Ending → World → Prop}
  (hR : ∀ x fr' st' c' w', Φ x fr' st' → Rep c' st'.look w' → Wf st' → dr lo c st.look w c' st'.look w' → ou lo st st' → (∀ k, st'.next ≤ k → c'.ρ k = none) → oW x = true ∧ ∃ ss, mb E fr' st' fn.results.toList ss ∧ ∀ v, Den c' (lI ss) v → R (.returned v) w') : Calls P f vs.toArray w R := by
 obtain ⟨g1, g2⟩ := hE.funcs f fn hf
 refine callsIn_wide.1 (callsIn_of_wp_marks (n := 0) g1 hb trivial (h (ro := none) (B := w.heap.size) (D := []) ⟨hr, hwf, hdom, (⟨?_, fun t s ht => ?_, rfl⟩ : jb [] c (entry fn args) { tmps := vs.toArray ++ Array.replicate (fn.ntmps - vs.toArray.size) undef, defers := [] }), Mks.nil _ _, Nat.le_refl _, hlo, hm⟩ (.inl rfl) fun x fr' st' D' c' a' w' h1 h2 h3 h4 _ => ?_).wp)
 ·have hl := hd.length
  show (vs.toArray ++ Array.replicate (fn.ntmps - vs.toArray.size) undef).size = args.length + (fn.ntmps - args.length)
  simp [hl]
 ·obtain ⟨_, h3⟩ := zu (show ba (argF 0 args) t = some s from ht)
  obtain ⟨v, h7, h8⟩ := hd.get h3
  refine ⟨v, ?_, h8⟩
  rw [Nat.sub_zero] at h7
  have : t < vs.length := (List.getElem?_eq_some_iff.1 h7).1
  show (vs.toArray ++ Array.replicate (fn.ntmps - vs.toArray.size) undef)[t]? = some v
  rw [Array.getElem?_append_left (by simpa using this)]
  simpa using h7
 ·obtain ⟨bs, d1, d2, d3⟩ := h2.mks
  have fin : LeavesInM Fence.wide 0 P fn a'.tmps R a'.defers .returning w' ∧ oW x = true := by
   refine ⟨?_, (hR x fr' st' c' w' h1 h2.rep h2.wf h3 h4 h2.dom).1⟩
   rw [h2.fr.defers, d1]
   refine mJ bs w' d2 (fun b hb => (d3 b hb).2) fun W e1 e2 e3 e4 e5 => ?_
   obtain ⟨r1, s1⟩ := marks_rep h2.rep h3 d3 e1 e2 e3 e4 e5
   obtain ⟨_, ss, h5, h6⟩ := hR x fr' st' c' W h1 r1 h2.wf s1 h4 h2.dom
   obtain ⟨rs, h7, h8⟩ := h5.ok hE (P := P) r1 h2.fr
   have hres : (results fn a'.tmps).run P W = .ok (if h : rs.toArray.size = 1 then rs.toArray[0] else .tuple rs.toArray) W := by
    rw [results_eq, Array.mapM_eq_mapM_toList, Sem.run_bind]
    simp only [Sem.run_map, h8, Result.andThen_ok, Sem.run_pure]
   exact ⟨_, hres, h6 _ (resV_den h7)⟩
  cases x with
  | normal => exact fin.1
  | ret => exact fin.1
  | exit id => cases fin.2
theorem pure_of {P : Program} {E : Env} (hE : a7 P E) {f : FuncId} {fn : Func} (hf : E.funcs.get f = some fn) {body : Code} (hb : fn.body = some body) {args : List SVal} {s : SVal} (hc : aw args = true)
  (h : W P 0 body (entry fn args) ⟨[], 0, 0, [], []⟩ fun x fr' st' => oW x = true ∧ ∃ ss, mb E fr' st' fn.results.toList ss ∧ ∃ ss' st2, FzL st' ss ss' st2 ∧ lI ss' = s) (hs : closed s = true) : iY P f args s := by
 obtain ⟨g1, g2⟩ := hE.funcs f fn hf
 refine ⟨⟨fn, body, g1, g2, hb⟩, hc, hs, fun {fz w vs} hfz hd => ?_⟩
 have h0 : ∀ k, (St.mk [] 0 0 [] []).look k = none := fun k => by rw [look_eq]; rfl
 refine su hE hf hb h (c := bare fz) (w := w) ⟨fun k o hk => (by rw [h0] at hk; cases hk), fun k j o o' l l' r hk => (by rw [h0] at hk; cases hk), hfz⟩ ⟨fun _ _ => rfl, fun k hk => (by cases hk), Nat.le_refl _⟩ (fun _ _ => rfl) (Nat.le_refl _) (Nat.le_refl _) hd ?_
 rintro x fr' st' c' w' ⟨he, ss, h1, ss', st2, h2, rfl⟩ h3 h4 h5 h6 h7
 refine ⟨he, ss, h1, fun v hv => ⟨v, rfl, ?_⟩⟩
 have noown : ∀ r, ¬ eD (bare fz) (St.mk [] 0 0 [] []).look r := fun r ⟨k, o, l, hk, _⟩ => by rw [h0] at hk; cases hk
 have gr : cE w w' := ⟨h5.os, h5.tape, h5.output, h5.size, fun r hr => h5.kept r hr (noown r)⟩
 have hv' : ∃ c2, Rep c2 st2.look w' ∧ Step st'.next st2.next c' st'.look w' c2 st2.look w' ∧ Den c2 (lI ss') v := by
  match ss, h2, hv with
  | [], h2, hv => cases h2; exact ⟨c', h3, Step.refl _ _ _ _, hv⟩
  | [a], h2, hv =>
   obtain ⟨c2, _, r2, s2, d2⟩ := h2.ok h3 (vs := [v]) ⟨v, [], hv, rfl, rfl⟩
   have : ∃ b, ss' = [b] := by cases h2 <;> (rename_i hh; cases hh; exact ⟨_, rfl⟩)
   obtain ⟨b, rfl⟩ := this
   obtain ⟨u, l, d3, d4, e⟩ := d2
   cases d4
   cases e
   exact ⟨c2, r2, s2, d3⟩
  | a :: b :: r, h2, ⟨us, hvs, e⟩ =>
   subst e
   obtain ⟨c2, _, r2, s2, d2⟩ := h2.ok h3 hvs
   have : ∃ a' b' r', ss' = a' :: b' :: r' := by cases h2 <;> (rename_i hh; cases hh <;> exact ⟨_, _, _, rfl⟩)
   obtain ⟨a', b', r', rfl⟩ := this
   exact ⟨c2, r2, s2, us, d2, rfl⟩
 obtain ⟨c2, r2, s2, d2⟩ := hv'
 refine ⟨c2.fz, fun b i v hv => s2.le.fz b i v (h5.fz b i v hv), fun b i v hv => ?_, r2.fz, gr, Den.free (c := c2) (c' := bare c2.fz) (fun _ _ _ h => h) _ _ hs d2⟩
 rcases s2.nfz b i v hv with e | e | e
 ·rcases h5.nfz b i v e with e | e | e
  ·exact .inl e
  ·exact absurd e (noown b)
  ·exact .inr e
 ·rcases h5.owns b e with e | e
  ·exact absurd e (noown b)
  ·exact .inr e
 ·exact .inr (Nat.le_trans h5.size e)
theorem fz_res {st st' : St} {ss ss' : List SVal} (h : FzL st ss ss' st') {c : Ctx} {w : World} (hr : Rep c st.look w) {v : Value} (hv : Den c (lI ss) v) : ∃ c2, Rep c2 st'.look w ∧ Step st.next st'.next c st.look w c2 st'.look w ∧ Den c2 (lI ss') v := by
 match ss, h, hv with
 | [], h, hv => cases h; exact ⟨c, hr, Step.refl _ _ _ _, hv⟩
 | [a], h, hv =>
  obtain ⟨c2, _, r2, s2, d2⟩ := h.ok hr (vs := [v]) ⟨v, [], hv, rfl, rfl⟩
  have : ∃ b, ss' = [b] := by cases h <;> (rename_i hh; cases hh; exact ⟨_, rfl⟩)
  obtain ⟨b, rfl⟩ := this
  obtain ⟨u, l, d3, d4, e⟩ := d2
  cases d4
  cases e
  exact ⟨c2, r2, s2, d3⟩
 | a :: b :: r, h, ⟨us, hvs, e⟩ =>
  subst e
  obtain ⟨c2, _, r2, s2, d2⟩ := h.ok hr hvs
  have : ∃ a' b' r', ss' = a' :: b' :: r' := by cases h <;> (rename_i hh; cases hh <;> exact ⟨_, _, _, rfl⟩)
  obtain ⟨a', b', r', rfl⟩ := this
  exact ⟨c2, r2, s2, us, d2, rfl⟩
theorem wu {P : Program} {E : Env} (hE : a7 P E) {f : FuncId} {fn : Func} (hf : E.funcs.get f = some fn) {body : Code} (hb : fn.body = some body) {args : List SVal} {s : SVal} {st st2 : St} (hsta : Sta st st2) (hnb : ∀ k o, ba st.heap k = some o → nbO st.next o = true) (hna : nbL st.next args = true)
  (h : W P st.next body (entry fn args) st fun x fr' st' => oW x = true ∧ ∃ ss, mb E fr' st' fn.results.toList ss ∧ ∃ ss' st3, FzL st' ss ss' st3 ∧ lI ss' = s ∧ iF st.next st2 st3 ∧ nb st2.next s = true) : fB P f args st s st2 := by
 obtain ⟨g1, g2⟩ := hE.funcs f fn hf
 refine ⟨⟨fn, body, g1, g2, hb⟩, hsta, fun {c w} hr hwf hfree vs hd => ?_⟩
 have cut : ∀ k, k < st.next → (jo st.next c).ρ k = c.ρ k := fun k hk => dp c hk
 have lt : ∀ k o, st.look k = some o → k < st.next := fun k o hk => by
  rcases Nat.lt_or_ge k st.next with q | q
  ·exact q
  ·have := (cm hk).1; rw [hwf.none k q] at this; cases this
 have hr0 : Rep (jo st.next c) st.look w := ⟨fun k o hk => by
  obtain ⟨l, h1, h2⟩ := hr.cW k o hk
  exact ⟨l, (cut k (lt k o hk)).trans h1, h2.low cut rfl (hnb k o (cm hk).1)⟩, fun k j o o' l l' r hk hj hne h1 h2 => by
  rw [cut k (lt k o hk)] at h1
  rw [cut j (lt j o' hj)] at h2
  exact hr.sep k j o o' l l' r hk hj hne h1 h2, hr.fz⟩
 have hd0 : aM (jo st.next c) args vs := aM.low cut (fun _ _ _ h => h) _ _ hna hd
 refine su hE hf hb h hr0 hwf (fun k hk => if_neg (by omega)) (Nat.le_refl _) hwf.mark hd0 ?_
 rintro x fr' st0 c00 w' ⟨he, ss, h1, ss', st', hfz, rfl, hless, hns⟩ h3' h4 h5' h6 h7
 refine ⟨he, ss, h1, fun v hv' => ⟨v, rfl, ?_⟩⟩
 obtain ⟨c1, h3, hst, hv⟩ := fz_res hfz h3' hv'
 have h5 := h5'.trans (hst.c (lo := st.next) (by rw [← hfz.sta.2]; exact Nat.le_trans hless.low hless.next))
 let c2 : Ctx := ⟨fun k => if k < st2.next then c1.ρ k else c.ρ k, c1.fz⟩
 have low2 : ∀ k, k < st2.next → c2.ρ k = (jo st2.next c1).ρ k := fun k hk => by
  show (if k < st2.next then c1.ρ k else c.ρ k) = (if k < st2.next then c1.ρ k else none)
  rw [if_pos hk, if_pos hk]
 have r1 := hless.rep h3
 have lt2 : ∀ k o, st2.look k = some o → k < st2.next := fun k o hk => (hless.heap k o (cm hk).1).2.2
 have r2 : Rep c2 st2.look w' := ⟨fun k o hk => by
  obtain ⟨l, g3, g4⟩ := r1.cW k o hk
  exact ⟨l, (low2 k (lt2 k o hk)).trans g3, g4.low low2 rfl (hless.look hk).2⟩, fun k j o o' l l' r hk hj hne g3 g4 => by
  rw [low2 k (lt2 k o hk)] at g3
  rw [low2 j (lt2 j o' hj)] at g4
  exact r1.sep k j o o' l l' r hk hj hne g3 g4, r1.fz⟩
 have ownc : ∀ r, eD (jo st.next c) st.look r → eD c st.look r := fun r ⟨k, o, l, hk, g3, g4⟩ => ⟨k, o, l, hk, by rw [cut k (lt k o hk)] at g3; exact g3, g4⟩
 have own2 : ∀ r, eD c2 st2.look r → eD c1 st'.look r := fun r ⟨k, o, l, hk, g3, g4⟩ => ⟨k, o, l, (hless.look hk).1, by
  rw [low2 k (lt2 k o hk), dp c1 (lt2 k o hk)] at g3
  exact g3, g4⟩
 have hnx := hless.low
 refine ⟨c2, ⟨Den.low (c := c1) (c' := c2) (m := st2.next) (fun k hk => if_pos hk) (fun _ _ _ h => h) _ _ hns hv, r2, ⟨⟨fun k l e => ?_, h5.fz⟩, fun k hk e => ?_, fun k l e e' => ?_, h5.os, h5.tape, h5.output, h5.size, fun r hr hn => h5.kept r hr fun ho => hn (ownc r ho), fun r ho => (h5.owns r (own2 r ho)).imp (ownc r) id, fun b i v hv => (h5.nfz b i v hv).imp id fun e => e.imp (ownc b) id⟩⟩⟩
 ·by_cases q : k < st.next
  ·obtain ⟨l', e1, e2⟩ := h5.le k l q (by rw [cut k q]; exact e)
   exact ⟨l', (if_pos (by omega)).trans e1, e2⟩
  ·by_cases q2 : k < st2.next
   ·rw [hfree k (by omega) q2] at e; cases e
   ·exact ⟨l, (if_neg q2).trans e, cS.refl l⟩
 ·rcases hk with q | q
  ·exact (if_pos (by omega)).trans (h5.off k q (by rw [cut k q]; exact e))
  ·exact (if_neg (by omega)).trans e
 ·by_cases q : k < st.next
  ·obtain ⟨e1, e2⟩ := h5.hid k l q e (by rw [cut k q]; exact e')
   refine ⟨?_, (if_pos (by omega)).trans e2⟩
   cases hx : st2.look k with
   | none => rfl
   | some o => rw [(hless.look hx).1] at e1; cases e1
  ·by_cases q2 : k < st2.next
   ·rw [hfree k (by omega) q2] at e'; cases e'
   ·refine ⟨?_, (if_neg q2).trans e'⟩
    cases hx : st2.look k with
    | none => rfl
    | some o => exact absurd (lt2 k o hx) q2
structure Inner (st : St) (c : Ctx) (w : World) : Prop where
 rep : Rep (jo st.next c) st.look w
 own : ∀ r, eD (jo st.next c) st.look r → eD c st.look r
theorem inner_of {st : St} {c : Ctx} {w : World} (hr : Rep c st.look w) (hwf : Wf st) (hnb : ∀ k o, ba st.heap k = some o → nbO st.next o = true) : Inner st c w := by
 have cut : ∀ k, k < st.next → (jo st.next c).ρ k = c.ρ k := fun k hk => dp c hk
 have lt : ∀ k o, st.look k = some o → k < st.next := fun k o hk => by
  rcases Nat.lt_or_ge k st.next with q | q
  ·exact q
  ·have := (cm hk).1; rw [hwf.none k q] at this; cases this
 refine ⟨⟨fun k o hk => ?_, fun k j o o' l l' r hk hj hne h1 h2 => ?_, hr.fz⟩, fun r ⟨k, o, l, hk, g3, g4⟩ => ⟨k, o, l, hk, by rw [cut k (lt k o hk)] at g3; exact g3, g4⟩⟩
 ·obtain ⟨l, h1, h2⟩ := hr.cW k o hk
  exact ⟨l, (cut k (lt k o hk)).trans h1, h2.low cut rfl (hnb k o (cm hk).1)⟩
 ·rw [cut k (lt k o hk)] at h1
  rw [cut j (lt j o' hj)] at h2
  exact hr.sep k j o o' l l' r hk hj hne h1 h2
theorem inner_out {st st2 st' : St} {c c1 : Ctx} {w w' : World} (hi : Inner st c w) (hfree : mc c st.next st2.next) (h3 : Rep c1 st'.look w') (h5 : dr st.next (jo st.next c) st.look w c1 st'.look w') (hless : iF st.next st2 st') {s : SVal} {v : Value} (hv : Den c1 s v) (hns : nb st2.next s = true) :
  ∃ c2, Good st st2 s c w c2 v w' := by
 have cut : ∀ k, k < st.next → (jo st.next c).ρ k = c.ρ k := fun k hk => dp c hk
 let c2 : Ctx := ⟨fun k => if k < st2.next then c1.ρ k else c.ρ k, c1.fz⟩
 have low2 : ∀ k, k < st2.next → c2.ρ k = (jo st2.next c1).ρ k := fun k hk => by
  show (if k < st2.next then c1.ρ k else c.ρ k) = (if k < st2.next then c1.ρ k else none)
  rw [if_pos hk, if_pos hk]
 have r1 := hless.rep h3
 have lt2 : ∀ k o, st2.look k = some o → k < st2.next := fun k o hk => (hless.heap k o (cm hk).1).2.2
 have r2 : Rep c2 st2.look w' := ⟨fun k o hk => by
  obtain ⟨l, g3, g4⟩ := r1.cW k o hk
  exact ⟨l, (low2 k (lt2 k o hk)).trans g3, g4.low low2 rfl (hless.look hk).2⟩, fun k j o o' l l' r hk hj hne g3 g4 => by
  rw [low2 k (lt2 k o hk)] at g3
  rw [low2 j (lt2 j o' hj)] at g4
  exact r1.sep k j o o' l l' r hk hj hne g3 g4, r1.fz⟩
 have own2 : ∀ r, eD c2 st2.look r → eD c1 st'.look r := fun r ⟨k, o, l, hk, g3, g4⟩ => ⟨k, o, l, (hless.look hk).1, by
  rw [low2 k (lt2 k o hk), dp c1 (lt2 k o hk)] at g3
  exact g3, g4⟩
 have hnx := hless.low
 refine ⟨c2, ⟨Den.low (c := c1) (c' := c2) (m := st2.next) (fun k hk => if_pos hk) (fun _ _ _ h => h) _ _ hns hv, r2, ⟨⟨fun k l e => ?_, h5.fz⟩, fun k hk e => ?_, fun k l e e' => ?_, h5.os, h5.tape, h5.output, h5.size, fun r hr hn => h5.kept r hr fun ho => hn (hi.own r ho), fun r ho => (h5.owns r (own2 r ho)).imp (hi.own r) id, fun b i v hv => (h5.nfz b i v hv).imp id fun e => e.imp (hi.own b) id⟩⟩⟩
 ·by_cases q : k < st.next
  ·obtain ⟨l', e1, e2⟩ := h5.le k l q (by rw [cut k q]; exact e)
   exact ⟨l', (if_pos (by omega)).trans e1, e2⟩
  ·by_cases q2 : k < st2.next
   ·rw [hfree k (by omega) q2] at e; cases e
   ·exact ⟨l, (if_neg q2).trans e, cS.refl l⟩
 ·rcases hk with q | q
  ·exact (if_pos (by omega)).trans (h5.off k q (by rw [cut k q]; exact e))
  ·exact (if_neg (by omega)).trans e
 ·by_cases q : k < st.next
  ·obtain ⟨e1, e2⟩ := h5.hid k l q e (by rw [cut k q]; exact e')
   refine ⟨?_, (if_pos (by omega)).trans e2⟩
   cases hx : st2.look k with
   | none => rfl
   | some o => rw [(hless.look hx).1] at e1; cases e1
  ·by_cases q2 : k < st2.next
   ·rw [hfree k (by omega) q2] at e'; cases e'
   ·refine ⟨?_, (if_neg q2).trans e'⟩
    cases hx : st2.look k with
    | none => rfl
    | some o => exact absurd (lt2 k o hx) q2
def gx : Ex → Option Code
 | .normal => none
 | .exit id => some (.exit id)
 | .ret => some .ret
def de : Ex → Bool
 | .normal => true
 | _ => false
noncomputable def qO : List Nat → List SVal → Fr → Option Fr
 | [], [], fr => some fr
 | p :: ps, a :: as, fr => bnd (fr.set p a) fun fr' => qO ps as fr'
 | _, _, _ => none
theorem slot_set {c : Ctx} {fr fr' : Fr} {tmps : Array Value} {d : Nat} {s : SVal} {v : Value} (h : kd c fr tmps) (hs : fr.set d s = some fr') (hd : Den c s v) : kd c fr' (tmps.setIfInBounds d v) := by
 obtain ⟨h1, h2, h3⟩ := dZ hs
 refine ⟨by simp [h.1, h2], fun t s' ht => ?_⟩
 rw [h3] at ht
 by_cases e : t = d
 ·subst e
  rw [if_pos rfl] at ht
  cases ht
  exact ⟨v, by simp [h.1, h1], hd⟩
 ·rw [if_neg e] at ht
  obtain ⟨v', h4, h5⟩ := h.2 t s' ht
  exact ⟨v', by simp [Array.getElem?_setIfInBounds_ne (Ne.symm e), h4], h5⟩
theorem tO {c : Ctx} : ∀ {ps : List Nat} {as : List SVal} {fr fr' : Fr} {tmps : Array Value} {vs : List Value}, qO ps as fr = some fr' → aM c as vs → kd c fr tmps →
  vs.length = ps.length ∧ kd c fr' ((ps.zip vs).foldl (fun t (p, v) => t.setIfInBounds p v) tmps)
 | [], [], fr, fr', tmps, vs, h, hd, hs => by
  cases h
  cases hd
  exact ⟨rfl, hs⟩
 | p :: ps, a :: as, fr, fr', tmps, vs, h, ⟨v, l, h3, h4, e⟩, hs => by
  subst e
  have h : bnd (fr.set p a) (fun fr' => qO ps as fr') = some fr' := h
  rw [aU] at h
  obtain ⟨fr1, h1, h2⟩ := h
  obtain ⟨h5, h6⟩ := tO h2 h4 (slot_set hs h1 h3)
  exact ⟨by simp [h5], h6⟩
 | [], _ :: _, fr, fr', tmps, vs, h, _, _ => by cases h
 | _ :: _, [], fr, fr', tmps, vs, h, _, _ => by cases h
theorem mE {st : St} {c : Ctx} {w : World} (hr : Rep c st.look w) {k b : Nat} {r : gD} (h : st.look k = some (.loop r)) (hb : c.ρ k = some (.box b)) : ∃ x, w.heap[b]? = some (.loop x) ∧ pf c r x := by
 obtain ⟨l', h1, h2⟩ := hr.cW k _ h
 rw [hb] at h1
 cases h1
 exact h2
theorem qN (w : World) (r : Nat) (o : Obj) : But (some r) w (w.putObj r o) :=
 ⟨rfl, rfl, rfl, by simp [World.putObj], fun x _ hx => World.putObj_heap_other (by
  have : r ≠ x := fun e => hx (by rw [e])
  omega)⟩
theorem yk {st : St} {c : Ctx} {w : World} (hr : Rep c st.look w) {k b : Nat} {r r' : gD} (hk : st.look k = some (.loop r)) (hb : c.ρ k = some (.box b)) {x : Loop} (hx : pf c r' x) :
  Rep c (st.put k (.loop r')).look (w.putObj b (.loop x)) ∧ Step st.next (st.put k (.loop r')).next c st.look w c (st.put k (.loop r')).look (w.putObj b (.loop x)) := by
 obtain ⟨y, h1, _⟩ := mE hr hk hb
 have hlt : b < w.heap.size := (Array.getElem?_eq_some_iff.1 h1).1
 refine dC (o' := .loop r') hr hk hb hb (cS.refl _) (fun _ _ => rfl) (fun _ _ _ h => h) (fun _ _ _ h => .inl h) (fun r hr => .inl hr) (qN w b _) (fun b' i v hb' hv => ?_) ⟨x, World.putObj_heap_same hlt, hx⟩
 cases hb'
 obtain ⟨arr, ee, f, h6, _⟩ := hr.fz _ _ _ hv
 rw [h1] at h6
 cases h6
theorem drop_but {st : St} {k b : Nat} {o : aV} {c : Ctx} {w w' : World} (hr : Rep c st.look w) (hk : st.look k = some o) (hb : c.ρ k = some (.box b)) (hw : But (some b) w w') (hfz : ∀ i v, c.fz b i ≠ some v) :
  Rep c (st.drop k).look w' ∧ Step st.next (st.drop k).next c st.look w c (st.drop k).look w' := by
 obtain ⟨r1, s1⟩ := drop_rep (k := k) hr
 have old : ∀ m om, (st.drop k).look m = some om → m ≠ k ∧ st.look m = some om := fun m om hm => by
  rw [look_eq, mW, show (st.drop k).ban = st.ban from rfl] at hm
  split at hm
  ·cases hm
  ·rename_i hb
   split at hm
   ·cases hm
   ·rename_i hne; exact ⟨hne, by rw [look_eq, if_neg hb]; exact hm⟩
 refine ⟨⟨fun m om hm => ?_, r1.sep, fun b' i v hv => ?_⟩, ⟨s1.le, s1.off, s1.hid, hw.os, hw.tape, hw.output, hw.size, fun r hr' hn => hw.old r hr' fun e => hn ⟨k, o, _, hk, hb, e⟩, fun r ho => (s1.owns r ho).imp id fun h => h, s1.nfz⟩⟩
 ·obtain ⟨l, h1, h2⟩ := r1.cW m om hm
  obtain ⟨hne, hm'⟩ := old m om hm
  refine ⟨l, h1, h2.pk (Le.refl c) (fun r hlr => hw.old r (h2.lt hlr) fun e => ?_) fun _ _ _ _ h => h⟩
  exact hr.sep k m o om _ l r hk hm' (Ne.symm hne) hb h1 e hlr
 ·have hne : b' ≠ b := fun e => by subst e; exact hfz i v hv
  rw [hw.old b' (yI hr hv) fun e => hne (by cases e; rfl)]
  exact hr.fz b' i v hv
section
variable {P : Program} {E : Env} {o : Oper} {ev : Evl} {st : St}
theorem sem_yield {d : Go.Call} {fop : Operand} {k : Nat} {x0 y0 ss : List SVal} {r : gD} {fr : Fr} {b : Bool} {st2 : St} (ho : o.op = .call d) (hc : d.callee = .value fop) (hf : ev fop = some (.func (.yield k) x0 y0)) (hev : evs ev d.args.toList = some ss) (hk : st.look k = some (.loop r)) (hr0 : r.state = 0)
  (hp : qO r.ps ss r.fr = some fr) (hsta : Sta st st2) (hnb : ∀ k o, ba st.heap k = some o → nbO st.next o = true) (hna : nbL st.next ss = true)
  (h : W P st.next r.assign fr st fun x fr1 st1 => x = .normal ∧ st1.look k = some (.loop r) ∧
   W P st.next r.body fr1 (st1.put k (.loop ⟨r.fr, r.ps, r.assign, r.body, 1, r.ji⟩)) fun x _ st3 => ∃ r3, st3.look k = some (.loop r3) ∧ b = de x ∧ iF st.next st2 (st3.put k (.loop ⟨r3.fr, r3.ps, r3.assign, r3.body, Bool.rec 2 0 (de x), gx x⟩))) : bg P o ev st (.bool b) st2 :=
 ⟨by simp [ho], hsta, fun {c w} hr hwf hfree {e} he a next Q hn => by
  have mem : ∀ x, x ∈ d.args.toList → ∀ s, ev x = some s → Den c s (e x) := fun x hx => he x (by
   rw [ho]
   show x ∈ (_ ++ d.args).toList
   rw [Array.toList_append]
   exact List.mem_append_right _ hx)
  obtain ⟨bk, hbk, hfv⟩ := he fop (by simp [ho, Op.operands, Go.Call.operands, hc]) _ hf
  have hd := kX mem hev
  have hrun : (execOp e o).run P w = (Instr.yield bk (d.args.toList.map e).toArray).run P w := by
   simp only [execOp, ho, Sem.run_bind, resolve, hc, hfv, Deferred.ofValue, Sem.run_pure, Result.andThen_ok, invoke]
   congr 2
   simp
   exact (kM e d.args).symm
  rw [hrun]
  have hi := inner_of hr hwf hnb
  have hklt : k < st.next := by
   rcases Nat.lt_or_ge k st.next with q | q
   ·exact q
   ·have := (cm hk).1; rw [hwf.none k q] at this; cases this
  have hb0 : (jo st.next c).ρ k = some (.box bk) := (dp c hklt).trans hbk
  have hd0 : aM (jo st.next c) ss (d.args.toList.map e) := aM.low (fun k hk => dp c hk) (fun _ _ _ h => h) _ _ hna hd
  obtain ⟨l, e2, e3⟩ := mE hi.rep hk hb0
  obtain ⟨hsz, hslots⟩ := tO hp hd0 e3.oB
  rw [run_yield e2 (by rw [e3.ps]; simp at hsz ⊢; exact hsz), Oper.uponIn_round]
  refine ⟨fun h => (by cases h), roundIn_of_wpIn trivial ?_⟩
  rw [e3.assign, e3.body, e3.ps]
  have hent : Ent st.next [] 0 (jo st.next c) fr st { tmps := (r.ps.toArray.zip (d.args.toList.map e).toArray).foldl (fun tmps (t, a) => tmps.setIfInBounds t a) l.tmps, defers := [] } w :=
   ⟨hi.rep, hwf, fun k hk => if_neg (by omega), ⟨by have := hslots.1; simpa using this, by have := hslots.2; simpa using this, rfl⟩, Mks.nil _ _, Nat.zero_le _, Nat.le_refl _, hwf.mark⟩
  refine (h hent (ro := some bk) (.inr e3.one) fun x fr1 st1 D1 c1 a1 w1 h1 h2 h3 h4 h5 => ?_).wp
  obtain ⟨rfl, hk1, hbody⟩ := h1
  have hb1 : c1.ρ k = some (.box bk) := by
   obtain ⟨l', g1, g2⟩ := h3.le k _ hklt hb0
   cases g2
   exact g1
  obtain ⟨l1, g2, g3⟩ := mE h2.rep hk1 hb1
  have hready : l1.state = .ready := by rw [g3.state, hr0]; rfl
  refine ⟨_, run_beginRound g2 hready, ?_⟩
  obtain ⟨rep2, stp2⟩ := yk h2.rep hk1 hb1 (r' := ⟨r.fr, r.ps, r.assign, r.body, 1, r.ji⟩) (x := { l1 with state := .busy }) ⟨g3.oB, g3.ps, g3.assign, g3.body, rfl, g3.ji, g3.one, g3.two⟩
  have cs2 := stp2.c h2.low
  have sta2 := cL (.loop ⟨r.fr, r.ps, r.assign, r.body, 1, r.ji⟩) hk1
  have hent2 : Ent st.next D1 0 c1 fr1 (st1.put k (.loop ⟨r.fr, r.ps, r.assign, r.body, 1, r.ji⟩)) a1 (w1.putObj bk (.loop { l1 with state := .busy })) :=
   ⟨rep2, h2.wf.sta sta2, h2.dom, h2.fr, h2.mks.step h2.rep cs2, Nat.zero_le _, h2.low, h2.mark⟩
  refine (hbody hent2 (ro := some bk) (.inr e3.two) fun x fr2 st3 D3 c3 a3 w3 i1 i2 i3 i4 i5 => ?_).wp
  obtain ⟨r3, hk3, rfl, hless⟩ := i1
  have hb3 : c3.ρ k = some (.box bk) := by
   obtain ⟨l', q1, q2⟩ := i3.le k _ hklt hb1
   cases q2
   exact q1
  obtain ⟨l3, q2, q3⟩ := mE i2.rep hk3 hb3
  have hend := run_endRound (P := P) (gx x) q2
  have hst : pE (Bool.rec 2 0 (de x)) = if (gx x).isNone then .ready else .done := by cases x <;> rfl
  obtain ⟨rep4, stp4⟩ := yk i2.rep hk3 hb3 (r' := ⟨r3.fr, r3.ps, r3.assign, r3.body, Bool.rec 2 0 (de x), gx x⟩) (x := { l3 with state := if (gx x).isNone then .ready else .done, pending := gx x }) ⟨q3.oB, q3.ps, q3.assign, q3.body, hst.symm, rfl, q3.one, q3.two⟩
  have hb : de x = (gx x).isNone := by cases x <;> rfl
  have tot := ((h3.trans cs2).trans i3).trans (stp4.c i2.low)
  obtain ⟨c5, hg⟩ := inner_out hi hfree rep4 tot hless (s := .bool (de x)) (v := .bool (de x)) rfl rfl
  have fin := hn c5 (.bool (de x)) _ hg
  cases x with
  | normal => exact ⟨_, _, hend, fin⟩
  | ret => exact ⟨_, _, hend, fin⟩
  | exit id => exact ⟨_, _, hend, fin⟩⟩
def jumpEx : Option Code → Option Ex
 | none => some .normal
 | some .ret => some .ret
 | some (.exit id) => some (.exit id)
 | _ => none
def anOper : Oper := { dst := none, op := .move (.tmp 0), type := 0, pos := "", after := #[], guard := none }
theorem W.range {lo : Nat} {g : Operand} {ps : Array Tmp} {x y : Code} {fr fr1 : Fr} (hn1 : fr1.n = fr.n) (hf1 : ∀ t s, fr1.get t = some s → fr.get t = some s) {f : FuncId} {first cap : List SVal} {s : SVal} {st2 : St} {rc : gD} {ex : Ex} {Φ : Ex → Fr → St → Prop} (hg : evS fr g = some (.func (.func f) first cap)) (n1 : gL x = true) (n2 : gL y = true)
  (hcall : fB P f (first ++ ([SVal.func (.yield st.next) [] []] ++ cap)) (st.fresh (.loop ⟨fr1, ps.toList, x, y, 0, none⟩)) s st2) (hk : st2.look st.next = some (.loop rc)) (hs : rc.state ≠ 1) (hj : jumpEx rc.ji = some ex) (h : Φ ex fr (st2.drop st.next)) : W P lo (.rangeFunc g ps x y) fr st Φ := by
 intro ro B D c w a he hro Q hq
 have hro : ro = none := hro.elim id fun h => (by cases h)
 subst hro
 show (Code.rangeFunc g ps x y).wpIn (gj none) 0 P Q a w
 refine wpIn_rangeFunc ?_
 intro fnid _
 obtain ⟨W1, hW1⟩ : ∃ W1, (w.alloc (.deferred (some []))).alloc (.loop { state := .ready, pending := none, fn := fnid, tmps := a.tmps, params := ps, assign := x, body := y, defers := w.heap.size }) = W1 := ⟨_, rfl⟩
 have hL : W1.heap[w.heap.size + 1]? = some (.loop { state := .ready, pending := none, fn := fnid, tmps := a.tmps, params := ps, assign := x, body := y, defers := w.heap.size }) := by
  rw [← hW1]
  have := World.alloc_heap_new (w.alloc (.deferred (some []))) (.loop { state := .ready, pending := none, fn := fnid, tmps := a.tmps, params := ps, assign := x, body := y, defers := w.heap.size })
  rwa [World.size_alloc] at this
 have hD : W1.heap[w.heap.size]? = some (.deferred (some [])) := by
  rw [← hW1]
  exact (Below.heap_alloc _ _ _ (by simp)).trans (World.alloc_heap_new w _)
 have hS : cE w W1 := by
  rw [← hW1]
  exact (cE.alloc _ _).trans (cE.alloc _ _)
 obtain ⟨fn, body, g1, g2, g3⟩ := hcall.body
 have hρk : c.ρ st.next = none := he.dom _ (Nat.le_refl _)
 have hle := ng (.box (w.heap.size + 1)) hρk
 obtain ⟨r1, t1⟩ := fm (o := .loop ⟨fr1, ps.toList, x, y, 0, none⟩) he.rep hρk he.wf hS (l := .box (w.heap.size + 1)) (fun b hb => by cases hb; omega) ⟨_, hL, ⟨kd.le (c := c) (fr := fr1) (tmps := a.tmps) ⟨by rw [hn1]; exact he.fr.size, fun t s hs => he.fr.get t s (hf1 t s hs)⟩ hle, by simp, rfl, rfl, rfl, rfl, n1, n2⟩⟩
 obtain ⟨xs, ys, d1, d2, d3⟩ := he.fr.eval g _ hg
 have hy : Den (fO c st.next (.box (w.heap.size + 1))) (.func (.yield st.next) [] []) (.func (.yield (w.heap.size + 1)) #[] #[]) := ⟨_, b8 _ _ _, rfl⟩
 have dl : aM (fO c st.next (.box (w.heap.size + 1))) (first ++ ([SVal.func (.yield st.next) [] []] ++ cap)) (xs ++ ([Value.func (.yield (w.heap.size + 1)) #[] #[]] ++ ys)) :=
  aM.append.2 ⟨_, _, aM.le hle _ _ d1, aM.append.2 ⟨_, _, ⟨_, [], hy, rfl, rfl⟩, aM.le hle _ _ d2, rfl⟩, rfl⟩
 have wf1 := he.wf.sta (cO st (.loop ⟨fr1, ps.toList, x, y, 0, none⟩))
 have dom1 : ∀ n, (st.fresh (.loop ⟨fr1, ps.toList, x, y, 0, none⟩)).next ≤ n → (fO c st.next (.box (w.heap.size + 1))).ρ n = none := fun n hn => by
  have hn : st.next + 1 ≤ n := hn
  rw [eR c _ (by omega)]
  exact he.dom n (by omega)
 have hc := hcall.ok r1 wf1 (fun n hn _ => dom1 n hn) dl
 have hc1 := dR g1 g2 g3 hc anOper a (fun _ w' => ∃ v' c', Good (st.fresh (.loop ⟨fr1, ps.toList, x, y, 0, none⟩)) st2 s (fO c st.next (.box (w.heap.size + 1))) W1 c' v' w') (fun _ _ _ => False) fun v' w' ⟨c', hg⟩ => ⟨v', c', hg⟩
 rw [oa g1 g2 g3, Oper.uponIn_enter] at hc1
 refine ⟨w.heap.size + 1, [nR w.heap.size], W1, ⟨.fn (.func f) ys.toArray, xs.toArray ++ #[.func (.yield (w.heap.size + 1)) #[] #[]]⟩, W1, f, _, W1, ?_, ?_, fun _ _ => trivial, ?_, fun h => (by cases h), hc1.2.mono ?_⟩
 ·rw [← hW1]; exact run_enterLoop_outer _ _ _ _ _
 ·simp only [resolve, d3, Deferred.ofValue]
  simp [go_sem]
 ·simp only [invoke]
  rw [← oa g1 g2 g3]
  congr 2
  simp
 ·rintro e w2 hh
  cases e with
  | panicked ch => exact hh.elim
  | outgrown => obtain ⟨_, _, hh⟩ := hh; exact hh.elim
  | returned v' =>
   obtain ⟨v', c2, hg⟩ := hh
   have hk2 : c2.ρ st.next = some (.box (w.heap.size + 1)) := hg.step.le.box (b8 _ _ _)
   obtain ⟨l, e2, e3⟩ := mE hg.rep hk hk2
   have hnb : l.state ≠ .busy := by
    rw [e3.state]
    rcases hss : rc.state with _ | _ | n
    ·simp [pE]
    ·exact absurd hss hs
    ·simp [pE]
   have hend := run_endLoop (P := P) e2 hnb
   have nofz : ∀ i v, c2.fz (w.heap.size + 1) i ≠ some v := fun i v hv => by
    obtain ⟨arr, ee, f, h6, _⟩ := hg.rep.fz _ _ _ hv
    rw [e2] at h6
    cases h6
   obtain ⟨r3, t3⟩ := drop_but hg.rep hk hk2 (qN w2 (w.heap.size + 1) (.loop { l with state := .exhausted })) nofz
   have s3n : st2.next = (st2.drop st.next).next := rfl
   have cs : dr lo c st.look w c2 (st2.drop st.next).look (w2.putObj (w.heap.size + 1) (.loop { l with state := .exhausted })) :=
    ((t1.trans hg.step (Nat.le_succ _) hcall.sta.next).trans t3 (Nat.le_trans (Nat.le_succ _) hcall.sta.next) (Nat.le_of_eq s3n)).c he.low
   have stay : ∀ (b : Nat) (z : Option (List Deferred)), W1.heap[b]? = some (.deferred z) → (w2.putObj (w.heap.size + 1) (.loop { l with state := .exhausted })).heap[b]? = some (.deferred z) := fun b z hz => by
    have h1 := (hg.step.kept b (Array.getElem?_eq_some_iff.1 hz).1 (yc r1 hz)).trans hz
    have hne : b ≠ w.heap.size + 1 := fun e => by rw [e, e2] at h1; cases h1
    exact (World.putObj_heap_other (by omega)).trans h1
   have hmk : Mks B (nR w.heap.size :: D) (w2.putObj (w.heap.size + 1) (.loop { l with state := .exhausted })) := by
    obtain ⟨bs, b1, b2, b3⟩ := he.mks
    refine ⟨w.heap.size :: bs, by rw [b1]; rfl, List.nodup_cons.2 ⟨fun hmem => ?_, b2⟩, fun b hb => ?_⟩
    ·have := (Array.getElem?_eq_some_iff.1 (b3 _ hmem).2).1
     omega
    ·rcases List.mem_cons.1 hb with rfl | hb
     ·exact ⟨he.base, stay _ _ hD⟩
     ·exact ⟨(b3 b hb).1, stay _ _ ((hS.old b (Array.getElem?_eq_some_iff.1 (b3 b hb).2).1).trans (b3 b hb).2)⟩
   have sta3 := ((cO st (.loop ⟨fr1, ps.toList, x, y, 0, none⟩)).trans hcall.sta).trans (drop_sta hk)
   have hent : Ent lo (nR w.heap.size :: D) B c2 fr (st2.drop st.next) { a with defers := [nR w.heap.size] ++ a.defers } (w2.putObj (w.heap.size + 1) (.loop { l with state := .exhausted })) :=
    ⟨r3, he.wf.sta sta3, fun n hn => t3.off n (.inr hn) (hg.step.off n (.inr hn) (dom1 n (Nat.le_trans hcall.sta.next hn))), ⟨he.fr.size, fun t s hs => by
     obtain ⟨v, q1, q2⟩ := he.fr.get t s hs
     exact ⟨v, q1, Den.le (hle.trans hg.step.le) _ _ q2⟩, by rw [he.fr.defers]; rfl⟩, hmk, Nat.le_trans he.base cs.size, Nat.le_trans he.low sta3.next, by rw [sta3.mark]; exact he.mark⟩
   have hend2 := hq ex fr (st2.drop st.next) _ _ _ _ h hent cs (sta3.c he.low) rfl
   generalize w2.putObj (w.heap.size + 1) (.loop { l with state := .exhausted }) = W3 at hend hend2
   refine ⟨l.pending, _, hend, ?_⟩
   rw [e3.ji]
   cases hp : rc.ji with
   | none =>
    rw [hp] at hj
    cases hj
    exact hend2
   | some cc =>
    rw [hp] at hj
    cases cc with
    | ret => cases hj; exact wpIn_ret hend2
    | exit id => cases hj; exact wpIn_exit hend2
    | _ => cases hj
end
section
variable {P : Program} {E : Env} {o : Oper} {ev : Evl} {st : St}
theorem sem_copy (hE : a7 P E) {d : Go.Call} {t tx e e' sz k s : Nat} {x : SVal} {rows new : List (List SVal)} (ho : o.op = .call d) (hb : d.callee = .builtin .copy) (hev : evs ev d.args.toList = some [.own k s, x]) (ht : d.argTypes = #[t, tx]) (hel : cJ E t = some e) (hex : cJ E tx = some e') (hsz : cj E e = some sz)
  (hk : st.look k = some (.row sz rows s false)) (hx : cH st x new) (hl : ∀ r ∈ new, r.length = sz) (hn : new.length = rows.length) : bg P o ev st (.int .i64 rows.length) (st.put k (.row sz new s false)) :=
 cu (S := fun us => Builtin.copy_ d.argTypes o.type us.toArray) ho hb hev (cL _ hk) (fun us consts => rfl) fun {c w} hr hwf hf us hd => by
  obtain ⟨u, v, hu, hv, rfl⟩ := two hd
  have hu1 := bP hE hel
  obtain ⟨ie, hie, rfl, hs⟩ := bE hE hsz
  obtain ⟨news, h1, h2, h3⟩ := hx.src (P := P) hr hv hl (bP hE hex)
  obtain ⟨_, ob, st0, sz0, u0, g1, g2, g3⟩ := hu
  obtain ⟨l', g4, g5⟩ := hr.cW _ _ hk
  rw [g1] at g4
  cases g4
  obtain ⟨rfl, rfl, g5⟩ := g5
  have := g3 rfl
  subst this
  rw [ht]
  cases ob with
  | none =>
   obtain ⟨rfl, a, rfl⟩ := g5
   have h0 := List.length_eq_zero_iff.1 hn
   subst h0
   have hn0 : news = [] := List.length_eq_zero_iff.1 (by rw [h2]; simp)
   subst hn0
   obtain ⟨r1, r2⟩ := dC (o' := .row ie.size [] st0 false) hr hk g1 g1 (cS.refl _) (fun _ _ => rfl) (fun _ _ _ h => h) (fun _ _ _ h => .inl h) (fun r hr => .inl hr) ((cE.refl w).but _) (fun b i v hb => by cases hb) ⟨rfl, rfl, rfl, a, rfl⟩
   refine ⟨c, .int .i64 0, w, ?_, rfl, r1, r2⟩
   have hc := h3.cells
   simp only [List.length_nil] at hc
   cases a with
   | none => simp [Builtin.copy_, run_underlying hu1, hs, h3.len w, hc, goInt]
   | some a => simp [Builtin.copy_, run_underlying hu1, hs, h3.len w, hc, goInt, storeCells]
  | some b =>
   obtain ⟨arr, el, cap, g6⟩ := g5
   have hval := g6.val
   have hle : rows.length * ie.size ≤ cap * ie.size := Nat.mul_le_mul_right _ g6.fits
   have hsize := g6.size
   have hnl : news.length = rows.length * ie.size := by rw [h2, hn]
   obtain ⟨k1, k2, k3⟩ := iJ (off := 0) g6.cells (by omega) h3.one
   have hobj : dG c (.row ie.size new st0 false) (.row (some b) st0 ie.size u) (stored w b 0 arr news) := by
    refine ⟨rfl, rfl, _, el, cap, ⟨by rw [hval, hn], k3, by simp; omega, by rw [hn]; exact g6.fits, ?_, fun j y hy => ?_⟩⟩
    ·refine dq.of hl fun q s hq => ?_
     obtain ⟨y, hy, hd⟩ := h1.get hq
     have hlt : q < news.length := (List.getElem?_eq_some_iff.1 hy).1
     refine ⟨y, ?_, h3.one y (List.mem_of_getElem? hy), hd⟩
     simp only [List.getElem?_toArray, List.take_zero, List.nil_append]
     rw [List.getElem?_append_left hlt]
     exact hy
    ·have := (g6.fz j y hy).1
     cases this
   obtain ⟨r1, r2⟩ := dC hr hk g1 g1 (cS.refl _) (fun _ _ => rfl) (fun _ _ _ h => h) (fun _ _ _ h => .inl h) (fun r hr => .inl hr) k2
    (fun b' j y hb hy => by cases hb; have := (g6.fz j y hy).1; cases this) hobj
   refine ⟨c, .int .i64 rows.length, _, ?_, rfl, r1, r2⟩
   have hc := h3.cells
   rw [hval]
   simp [Builtin.copy_, run_underlying hu1, hs, h3.len w, hn, goInt]
   rw [hn] at hc
   simp [hc, k1 P]
theorem nF (hE : a7 P E) {d : Go.Call} {t tn e size : Nat} {kn kq : IntKind} {n : Int} {k : Nat} {z : SVal} {by4 : Nat} (ho : o.op = .call d) (hb : d.callee = .builtin .append) (hev : evs ev d.args.toList = some [.az, .int kq n]) (ht : d.argTypes = #[t, tn]) (hel : cJ E t = some e) (htn : under E tn = some (.int kn))
  (hsz : cj E e = some size) (hby : jX E e = some by4) (hb4 : Nat.ble by4 4096 = true) (hz : fT E e = some z) (hzl : Nat.beq (bD z).length size = true) (hs0 : Nat.ble 1 size = true) (hf : eL (bD z) = true) (hn : n = (k : Int)) (h0 : 0 < k) (h1 : k ≤ 1000000000) :
  bg P o ev st (.own st.next 0) (st.fresh (.row size (List.replicate k (bD z)) 0 false)) :=
 cu (S := fun us => Builtin.append_ d.argTypes o.type us.toArray) ho hb hev (cO _ _) (fun us consts => rfl) fun {c w} hr hwf hf0 us hd => by
  obtain ⟨u, v, hu, hv, rfl⟩ := two hd
  cases hu
  cases hv
  have hk : c.ρ st.next = none := hf0 _ (Nat.le_refl _) (Nat.lt_succ_self _)
  have hu1 := bP hE hel
  obtain ⟨ie, hie, rfl, _⟩ := bE hE hsz
  obtain ⟨ib, hib, rfl⟩ := fM hE hby
  rw [hie] at hib
  cases hib
  obtain ⟨iz, zv, hiz, hzv, hdz, _⟩ := dv hE hz
  rw [hie] at hiz
  cases hiz
  have hdc := di (hdz c)
  have hzs : zv.cells.size = ie.size := by
   have := hdc.length
   have h5 := beq_true hzl
   simp at this
   omega
  have hb5 := cr hb4
  subst hn
  rw [ht]
  have hge := grownCap_ge w (0 + k) 0 e
  have hrun := Go.Lib.run_append_grow_zeros w t tn o.type e ie zv kq kn hu1 (bu hE htn) hie hzv none 0 0 [] (run_firstCells_none w.drew ie.size 0 0 0) k h0 (cr hs0) (by omega) (by omega) (by
   have : k * ie.bytes ≤ 1000000000 * 4096 := Nat.mul_le_mul h1 hb5
   omega) (kR (by omega) (by omega) hb5)
  have hzc : ∀ m : Nat, (Builtin.zeroCells zv.cells m).size = m * ie.size := fun m => by
   have := gP (zc := zv.cells) (size := ie.size) (need := 0) (cap := m) (xs := []) hzs (by simp) (Nat.zero_le _)
   simpa using this
  have hzd : aM c (List.replicate k (bD z)).flatten (Builtin.zeroCells zv.cells k).toList := by
   have := nq hdc k
   rw [dh] at this
   simp only [Array.toArray_toList, Array.length_toList] at this
   exact this
  have hone : ∀ y ∈ (Builtin.zeroCells zv.cells k).toList, y.oneCell' = true := iy (fun s h => by
   obtain ⟨r, hr, hs⟩ := List.mem_flatten.1 h
   rw [(List.mem_replicate.1 hr).2] at hs
   exact fJ hf s hs) hzd
  have hlr : ∀ r ∈ List.replicate k (bD z), r.length = ie.size := fun r hr => by rw [(List.mem_replicate.1 hr).2]; exact beq_true hzl
  have hel2 := gS (c := c) (rows := []) (olds := []) (tail := Builtin.zeroCells zv.cells (grownCap w (0 + k) 0 e - (0 + k))) rfl hzd (fun v hv => by cases hv) hone (fun r hr => by cases hr) hlr
  have hsz2 : (([] : List Value).toArray ++ Builtin.zeroCells zv.cells k ++ Builtin.zeroCells zv.cells (grownCap w (0 + k) 0 e - (0 + k))).size = grownCap w (0 + k) 0 e * ie.size := by
   rw [Array.size_append, Array.size_append, hzc, hzc, List.size_toArray, List.length_nil, Nat.zero_add, ← Nat.add_mul]
   congr 1
   omega
  obtain ⟨g1, g2⟩ := newRow (w' := w.drew.alloc (.cells (([] : List Value).toArray ++ Builtin.zeroCells zv.cells k ++ Builtin.zeroCells zv.cells (grownCap w (0 + k) 0 e - (0 + k))) e)) (cap := grownCap w (0 + k) 0 e) (b := w.heap.size) hr hk hwf
   ((cE.drew w _).trans (cE.alloc _ _)) (eB w.drew _) (Nat.le_refl _) hsz2 (rows := List.replicate k (bD z)) (by rw [List.length_replicate]; omega) (by simpa using hel2)
  refine ⟨_, _, _, hrun, ?_, g1, g2⟩
  have := fy (c := fO c st.next (.row (some w.heap.size) 0 ie.size (.slice (some ⟨w.heap.size, 0, none⟩) (List.replicate k (bD z)).length (grownCap w (0 + k) 0 e)))) (b8 _ _ _) ⟨_, _, _, rfl⟩
  rw [List.length_replicate] at this ⊢
  rw [Nat.zero_add] at this ⊢
  exact this
theorem sem_cap (hE : a7 P E) {d : Go.Call} {t e : TypeId} {x : SVal} {n : Nat} (ho : o.op = .call d) (hb : d.callee = .builtin .cap) (hev : evs ev d.args.toList = some [x]) (ht : d.argTypes[0]? = some t) (hu : cJ E t = some e) (hx : (x = .az ∧ n = 0) ∨ ∃ rows, x = .lst true rows ∧ n = rows.length) : bg P o ev st (.int .i64 n) st :=
 cu (S := fun us => Builtin.cap_ d.argTypes o.type us.toArray) ho hb hev (Sta.refl _) (fun us consts => rfl) fun {c w} hr hwf hf us hd => by
  obtain ⟨u, hu1, rfl⟩ := one hd
  have h1 := bP hE hu
  have : ∃ a l, u = .slice a l n := by
   rcases hx with ⟨rfl, rfl⟩ | ⟨rows, rfl, rfl⟩
   ·cases hu1; exact ⟨none, 0, rfl⟩
   ·rcases hu1 with ⟨h, a0, cap, rfl, hc⟩ | ⟨b, base, size, cap, rfl, _, hc, _⟩
    ·subst h; rw [hc rfl]; exact ⟨a0, 0, rfl⟩
    ·rw [hc rfl]; exact ⟨_, _, rfl⟩
  obtain ⟨a, l, rfl⟩ := this
  refine Ran.same (v := .int .i64 n) hr ?_ rfl
  simp [Builtin.cap_, ht, run_underlying h1, goInt]
end
end Sv
