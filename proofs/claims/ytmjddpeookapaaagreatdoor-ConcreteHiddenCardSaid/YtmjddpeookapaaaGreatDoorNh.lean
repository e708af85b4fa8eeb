/- For ConcreteHidden: the mirror of the law is true. -/
import Derived.Test.YtmjddpeookapaaaGreatDoorNf
import Derived.Test.YtmjddpeookapaaaGreatDoorMo
set_option linter.unusedVariables false
set_option linter.unusedSimpArgs false
set_option linter.unusedSectionVars false
namespace Go.Proofs.YtmjddpeookapaaaGreatDoor
open Sv
def SmSW (n L : Nat) (c : aI Va) : Prop := (c.fields.length ≤ n ∧ c.aA.length ≤ n) ∧ (∀ f ∈ c.fields, f.label.length ≤ n) ∧ (∀ f ∈ c.fields, WtX n L f.val) ∧ (∀ k ∈ c.aA, WtA n k.set) ∧ ∀ k ∈ c.aA, WtX n L k.val
theorem meS_tot {n L : Nat} (hL : L ≤ 1000) (hn : n ≤ 9223372036854775807) {rec : List Va → Int → Int → Option Int} (h : MaT n L rec) {ss : List (aI Va)} (hw : ∀ c ∈ ss, SmSW n L c) (hl : ss.length ≤ 1000) {most : Int} (h0 : -1 ≤ most) (h1 : most ≤ 1000) : ∀ {f i : Nat} {m : Int}, i ≤ ss.length → ss.length < f + i → 0 ≤ m → m ≤ most + 1 → Tot (meS rec ss ((L + 1 : Nat) : Int) most f i m) fun r => m ≤ r ∧ r ≤ most + 1 ∧ (r ≤ most → ∀ j x, i ≤ j → ss[j]? = some x → SmS (SmP L) x)
 | 0, i, m, g1, g2, _, _ => by omega
 | f + 1, i, m, g1, g2, g3, g4 => by
  have e1 : ((i : Int) + 1) = ((i + 1 : Nat) : Int) := by omega
  have big : ∀ P : Int → Prop, P (most + 1) → Tot (fx most) P := fun P hP => (iD h0 h1).mono fun r hr => by rw [hr]; exact hP
  have hbig : m ≤ most + 1 ∧ most + 1 ≤ most + 1 ∧ (most + 1 ≤ most → ∀ j x, i ≤ j → ss[j]? = some x → SmS (SmP L) x) := ⟨by omega, by omega, fun h => by omega⟩
  unfold meS
  rw [e1]
  refine ar (by omega) (aq (fun hi => aq (fun hm => aP (by omega) (by omega) fun c hc hmem => ?_) fun hm => ah ⟨by omega, by omega, fun h => by omega⟩) fun hi => ah ⟨by omega, by omega, fun _ j x hj hx => ?_⟩)
  ·obtain ⟨⟨c1, c2⟩, c3, c4, c5, c6⟩ := hw c hmem
   refine ar (by omega) (aq (fun _ => big _ hbig) fun hf4 => ar (by omega) (aq (fun _ => big _ hbig) fun hk4 => ?_))
   obtain ⟨q, eF, hq⟩ : Tot (meF c most (c.fields.length + 1) ((0 : Nat) : Int) []) _ := meF_tot hn c3 (by omega) h0 h1 (by omega) (by omega) (by simp) (fun x hx => by simp at hx)
   rw [show ((0 : Nat) : Int) = 0 from rfl] at eF
   rw [eF, Option.bind_some]
   clear eF
   rcases hq with rfl | ⟨rfl, hq⟩
   ·exact ah hbig
   obtain ⟨q, eK, hq2⟩ : Tot (meK c most (c.aA.length + 1) ((0 : Nat) : Int) (c.fields.map (·.val))) _ := meK_tot hn c5 (by omega) h0 h1 (l0 := c.fields.map (·.val)) (by simp; omega) (by omega) (by omega) (by simp) (fun x hx => by simp at hx)
   rw [show ((0 : Nat) : Int) = 0 from rfl] at eK
   show Tot ((meK c most (c.aA.length + 1) 0 (c.fields.map (·.val))).bind _) _
   rw [eK, Option.bind_some]
   clear eK
   rcases hq2 with rfl | ⟨rfl, hq2⟩
   ·exact ah hbig
   show Tot ((meS2 rec c _ most m _).bind _) _
   unfold meS2
   rw [Option.bind_assoc]
   have e2 : ((L + 1 : Nat) : Int) - 1 = (L : Int) := by omega
   rw [e2]
   refine ar (by omega) ?_
   rw [Option.bind_assoc]
   refine ar (by omega) ?_
   rw [Option.bind_assoc]
   refine an (h _ (most - m) (fun x hx => ?_) (by simp; omega) (by omega) (by omega)) fun k ⟨k0, k1, k2⟩ => ?_
   ·rcases List.mem_append.1 hx with hx | hx
    ·obtain ⟨y, hy, rfl⟩ := List.mem_map.1 hx
     exact c4 y hy
    ·obtain ⟨y, hy, rfl⟩ := List.mem_map.1 hx
     exact c6 y hy
   rw [Option.bind_assoc]
   refine ar (by omega) ?_
   rw [Option.bind_some]
   refine (meS_tot hL hn h hw hl h0 h1 (f := f) (i := i + 1) (m := m + k) (by omega) (by omega) (by omega) (by omega)).mono fun r ⟨r0, r1, r2⟩ => ⟨by omega, r1, fun hr jj y hj hy => ?_⟩
   by_cases e : jj = i
   ·subst e
    rw [show ((jj : Int)).toNat = jj by omega, hy] at hc
    cases hc
    have good := k2 (by omega)
    refine ⟨by omega, by omega, hq, fun f hf => good _ (List.mem_append_left _ (List.mem_map_of_mem hf)), fun k hk => ?_, fun k hk => good _ (List.mem_append_right _ (List.mem_map_of_mem hk)), ?_⟩
    ·have := hq2 k hk
     exact ⟨by omega, fun s hs => by have := this.2 s hs; omega, (c5 k hk).eb⟩
    ·refine Nat.le_trans (zE _ fun k hk => (hq2 k hk).1) ?_
     exact Nat.le_trans (Nat.pow_le_pow_right (n := 11) (by omega) (show c.aA.length ≤ 4 by omega)) (by decide)
   ·exact r2 hr jj y (by omega) hy
  ·have := (List.getElem?_eq_some_iff.1 hx).1
   omega
theorem meL_tot {n L : Nat} (hL : L ≤ 1000) (hn : n ≤ 9223372036854775807) {rec : List Va → Int → Int → Option Int} (h : MaT n L rec) {v : Vlu Va} (hw : WtC n (WtX n L) v) (hl : v.lists.length ≤ 3) (hs : v.structs.length ≤ 3) {most : Int} (h0 : -1 ≤ most) (h1 : most ≤ 1000) : ∀ {f i : Nat} {m : Int}, i ≤ v.lists.length → v.lists.length < f + i → 0 ≤ m → m ≤ most + 1 → Tot (meL rec v ((L + 1 : Nat) : Int) most f i m) fun r => m ≤ r ∧ r ≤ most + 1 ∧ (r ≤ most → (∀ j x, i ≤ j → v.lists[j]? = some x → SmL (SmP L) x) ∧ ∀ c ∈ v.structs, SmS (SmP L) c)
 | 0, i, m, g1, g2, _, _ => by omega
 | f + 1, i, m, g1, g2, g3, g4 => by
  have e1 : ((i : Int) + 1) = ((i + 1 : Nat) : Int) := by omega
  have e2 : ((L + 1 : Nat) : Int) - 1 = (L : Int) := by omega
  have big : ∀ P : Int → Prop, P (most + 1) → Tot (fx most) P := fun P hP => (iD h0 h1).mono fun r hr => by rw [hr]; exact hP
  have hbig : m ≤ most + 1 ∧ most + 1 ≤ most + 1 ∧ (most + 1 ≤ most → (∀ j x, i ≤ j → v.lists[j]? = some x → SmL (SmP L) x) ∧ ∀ c ∈ v.structs, SmS (SmP L) c) := ⟨by omega, by omega, fun h => by omega⟩
  unfold meL
  rw [e1, e2]
  refine ar (by omega) (aq (fun hi => aP (by omega) (by omega) fun c hc hmem => ?_) fun hi => ?_)
  ·have c1 := hw.il c hmem
   have c2 := hw.rl c hmem
   refine ar (by omega) (aq (fun _ => big _ hbig) fun hi3 => aP (by omega) (by omega) fun c' hc' _ => ?_)
   rw [hc] at hc'
   cases hc'
   refine ar (by omega) (aq (fun _ => big _ hbig) fun hr2 => aP (by omega) (by omega) fun c' hc' _ => ?_)
   rw [hc] at hc'
   cases hc'
   refine kp (by simp; omega) (aP (by omega) (by omega) fun c' hc' _ => ?_)
   rw [hc] at hc'
   cases hc'
   refine kp (by omega) (ar (by omega) (ar (by omega) (an (h _ (most - m) (fun x hx => ?_) (by simp; omega) (by omega) (by omega)) fun k ⟨k0, k1, k2⟩ => ar (by omega) ?_)))
   ·rcases List.mem_append.1 hx with hx | hx
    ·exact hw.i c hmem x hx
    ·exact hw.r c hmem x hx
   refine (meL_tot hL hn h hw hl hs h0 h1 (f := f) (i := i + 1) (m := m + k) (by omega) (by omega) (by omega) (by omega)).mono fun r ⟨r0, r1, r2⟩ => ⟨by omega, r1, fun hr => ⟨fun jj y hj hy => ?_, (r2 hr).2⟩⟩
   by_cases e : jj = i
   ·subst e
    rw [show ((jj : Int)).toNat = jj by omega, hy] at hc
    cases hc
    have good := k2 (by omega)
    exact ⟨by omega, by omega, fun x hx => good x (List.mem_append_left _ hx), fun x hx => good x (List.mem_append_right _ hx)⟩
   ·exact (r2 hr).1 jj y (by omega) hy
  ·refine (meS_tot hL (by omega) h (fun c hc => ⟨⟨hw.fl c hc, hw.kl c hc⟩, hw.lab c hc, hw.f c hc, hw.a c hc, hw.k c hc⟩) (by omega) h0 h1 (f := v.structs.length + 1) (i := 0) (m := m) (by omega) (by omega) g3 g4).mono fun r ⟨r0, r1, r2⟩ => ⟨r0, r1, fun hr => ⟨fun j x hj hx => ?_, fun c hc => ?_⟩⟩
   ·have := (List.getElem?_eq_some_iff.1 hx).1
    omega
   ·obtain ⟨j, hj⟩ := List.mem_iff_getElem?.1 hc
    exact r2 hr j c (by omega) hj
theorem meV_tot {n L : Nat} (hL : L ≤ 1000) (hn : n ≤ 9223372036854775807) {rec : List Va → Int → Int → Option Int} (h : MaT n L rec) : MeT n (L + 1) (meV rec) := by
 intro v most hw h0 h1
 have hw : WtC n (WtX n L) v := hw
 have l1 := hw.ll
 have l2 := hw.sl
 have big : ∀ P : Int → Prop, P (most + 1) → Tot (fx most) P := fun P hP => (iD (by omega) h1).mono fun r hr => by rw [hr]; exact hP
 have hbig : 0 ≤ most + 1 ∧ most + 1 ≤ most + 1 ∧ (most + 1 ≤ most → GV (L + 1) v) := ⟨by omega, by omega, fun h => by omega⟩
 unfold meV
 refine aq (fun _ => big _ hbig) fun _ => aq (fun _ => big _ hbig) fun hm => an (sclR_tot (by omega) hw.sc) fun ok hok => aq (fun hs => ar (by omega) (aq (fun _ => big _ hbig) fun hl3 => ar (by omega) (aq (fun _ => big _ hbig) fun hs3 => ?_))) fun _ => big _ hbig
 refine (meL_tot hL hn h hw (by omega) (by omega) (by omega) h1 (f := v.lists.length + 1) (i := 0) (m := 1) (by omega) (by omega) (by omega) (by omega)).mono fun r ⟨r0, r1, r2⟩ => ⟨by omega, r1, fun hr => ?_⟩
 have h2 := r2 hr
 refine SmV.of ⟨hok hs, by omega, by omega, fun c hc => ?_, h2.2⟩
 obtain ⟨j, hj⟩ := List.mem_iff_getElem?.1 hc
 exact h2.1 j c (by omega) hj
theorem meV_tot0 {n : Nat} {rec : List Va → Int → Int → Option Int} : MeT n 0 (meV rec) := by
 intro v most hw h0 h1
 unfold meV
 exact aq (fun _ => (iD (by omega) h1).mono fun r hr => ⟨by omega, by omega, fun h => by omega⟩) fun h => by omega
theorem meR_tot {n : Nat} (hn : n ≤ 9223372036854775807) : ∀ {f L : Nat}, L ≤ 1000 → L < f → MeT n L (meR f)
 | 0, L, _, h => by omega
 | f + 1, 0, _, _ => meV_tot0
 | f + 1, L + 1, h1, h => meV_tot (by omega) hn (maM_tot (meR_tot hn (by omega) (by omega)))
theorem smallR_tot {n : Nat} (hn : n ≤ 9223372036854775807) {x : Va} (hx : WtX n 3 x) : Tot (qn x) fun b => b = true → SmA 2 x := by
 have h := maM_tot (meR_tot hn (f := 5) (L := 3) (by omega) (by omega)) [x] 60 (fun y hy => by rw [List.mem_singleton.1 hy]; exact hx) (by simp) (by omega) (by omega)
 unfold qn maR
 refine an h fun r ⟨r0, r1, r2⟩ => ah fun hb => ?_
 have := of_decide_eq_true hb
 exact r2 this x (List.mem_singleton.2 rfl)
theorem kW : n9 = some true := by kernel_rfl
theorem dataC_0 {x : Va} {hid : Bool} {d : Dat} (h : eO x hid = some (d, [])) : mY x hid = some (d, 0) := by
 unfold mY
 rw [h]
 rfl
theorem dataC_1 {x : Va} {hid : Bool} {d : Dat} {e : bZ} {r : List bZ} (h : eO x hid = some (d, e :: r)) (hl : (e :: r).length ≤ 1000) : mY x hid = some (zDat, e.jO) := by
 unfold mY
 rw [h, Option.bind_some]
 show (aN (e :: r)).bind _ = _
 rw [dA (by omega)]
 show (if ((e :: r).length : Int) > 0 then _ else _) = _
 rw [if_pos (by rw [List.length_cons]; omega)]
 rfl
theorem lawH_true {n : Nat} (hn : n ≤ 9223372036854775807) {x : Va} (hx : WtX n 3 x) : lawH x = some true := by
 obtain ⟨s, h1, hs⟩ := smallR_tot hn hx
 unfold lawH
 rw [h1, Option.bind_some]
 cases s with
 | false => rw [if_neg nf]; exact kW
 | true =>
  have hx := hs rfl
  rw [if_pos rfl]
  obtain ⟨vb, h2, _⟩ := zY (d := 2) (by omega) hx
  obtain ⟨⟨dd, ps⟩, h3, ext, q1, q2, q3, q4⟩ := wT (n := 18) (d := 2) (by omega) x [] [] hx (by simp) (by decide)
  have q1 : ps = ext := q1
  subst q1
  have hcol : ∀ hid, eO x hid = if vb then mf hid 18 x [] [] else some (zDat, [⟨[], 11⟩]) := fun hid => by
   unfold eO
   rw [h2]
   rfl
  cases vb with
  | false =>
   rw [dataC_1 (d := zDat) (e := ⟨[], 11⟩) (r := []) (by rw [hcol, if_neg nf]) (by decide), Option.bind_some, if_neg (show ¬ (11 : Int) = 0 by omega)]
   exact kW
  | true =>
   have hcol : ∀ hid, eO x hid = mf hid 18 x [] [] := fun hid => (hcol hid).trans (if_pos rfl)
   cases ps with
   | cons e r =>
    rw [dataC_1 ((hcol true).trans h3) (Nat.le_trans q2 (by decide)), Option.bind_some, if_neg (q3 e (List.mem_cons_self ..))]
    exact kW
   | nil =>
    obtain ⟨b, b1, b2, b3⟩ := q4 rfl 20 (by omega)
    unfold bareR sameD
    rw [dataC_0 ((hcol true).trans h3), Option.bind_some, if_pos rfl, dataC_0 ((hcol false).trans (b3 [] [] (by decide))), Option.bind_some, if_pos rfl]
    show ((brR 20 dd).bind _) = _
    rw [b1, Option.bind_some, b2 20 (by omega), Option.bind_some, if_pos rfl]
    exact kW
end Go.Proofs.YtmjddpeookapaaaGreatDoor
