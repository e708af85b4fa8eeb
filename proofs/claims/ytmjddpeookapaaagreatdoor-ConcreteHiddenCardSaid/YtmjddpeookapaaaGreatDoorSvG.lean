/- For ConcreteHidden: contracts of functions, and the rules once more. -/
import Derived.Test.YtmjddpeookapaaaGreatDoorSvF
import Derived.KernelRfl
set_option linter.unusedVariables false
set_option linter.unusedSimpArgs false
set_option linter.unusedSectionVars false
namespace Sv
open Go Go.RowKit
theorem vJ {ks : List Nat} {n : Nat} (h : n ∈ ks) : ∃ i, i < ks.length ∧ ks[i]? = some n := by
 obtain ⟨i, hi, e⟩ := List.getElem_of_mem h
 exact ⟨i, hi, by rw [List.getElem?_eq_getElem hi, e]⟩
open Classical in
theorem qY {P : Program} {f : FuncId} {objs objs' : List aV} {args : List SVal} {s : SVal} (h : sJ P f objs args s objs') {big : St} {ks : List Nat} {σ : Nat → Nat} (hσ : ∀ i, σ i = ks.getD i 0) (hlen : ks.length = objs.length) (hnd : ks.Nodup)
  (hbig : ∀ (i k : Nat) (o : aV), ks[i]? = some k → objs[i]? = some o → big.look k = some (ef σ o)) : fB P f (bV σ args) big (ren σ s) (fD σ ks objs' big) := by
 have hsome : ∀ k ∈ ks, ∃ o, big.look k = some o := fun k hk => by
  obtain ⟨i, hi, e⟩ := vJ hk
  exact ⟨_, hbig i k _ e (List.getElem?_eq_getElem (hlen ▸ hi))⟩
 obtain ⟨p1, p2, p3, p4⟩ := kE (σ := σ) (ks := ks) (os := objs') (st := big) (hlen.trans h.len.symm) hnd hsome
 have hget : ∀ i, i < objs.length → ks[i]? = some (σ i) := fun i hi => by
  rw [hσ, List.getD_eq_getElem?_getD, List.getElem?_eq_getElem (hlen ▸ hi)]
  rfl
 have hinj : ∀ i j, i < objs.length → j < objs.length → σ i = σ j → i = j := fun i j hi hj e => by
  have h1 := hget i hi
  have h2 := hget j hj
  rw [← e] at h2
  exact (List.getElem?_inj (hlen ▸ hi) hnd).1 (h1.trans h2.symm)
 have hmem : ∀ n, n ∈ ks → ∃ i, i < objs.length ∧ σ i = n := fun n hn => by
  obtain ⟨i, hi, e⟩ := vJ hn
  have := hget i (hlen ▸ hi)
  rw [e] at this
  cases this
  exact ⟨i, hlen ▸ hi, rfl⟩
 have hin : ∀ i, i < objs.length → σ i ∈ ks := fun i hi => List.mem_of_getElem? (hget i hi)
 refine ⟨h.sem.body, p1, fun {c w} hr hwf hfree {vs} hd => ?_⟩
 let m := objs.length
 let c0 : Ctx := ⟨fun i => if i < m then c.ρ (σ i) else none, c.fz⟩
 have hρ0 : ∀ k, k < m → c.ρ (σ k) = c0.ρ k := fun k hk => (if_pos hk).symm
 have hr0 : Rep c0 (eZ objs).look w := by
  refine ⟨fun k o hk => ?_, fun k j o o' l l' r hk hj hne hl hl' hb => ?_, hr.fz⟩
  ·rw [dx] at hk
   have hlt : k < m := (List.getElem?_eq_some_iff.1 hk).1
   obtain ⟨l, h1, h2⟩ := hr.cW _ _ (hbig k _ o (hget k hlt) hk)
   obtain ⟨g1, g2⟩ := h.po o (List.mem_of_getElem? hk)
   exact ⟨l, (hρ0 k hlt) ▸ h1, (dG.ren hρ0 rfl g1 g2 l w).1 h2⟩
  ·rw [dx] at hk hj
   have hlt : k < m := (List.getElem?_eq_some_iff.1 hk).1
   have hlt' : j < m := (List.getElem?_eq_some_iff.1 hj).1
   rw [← hρ0 k hlt] at hl
   rw [← hρ0 j hlt'] at hl'
   exact hr.sep _ _ _ _ l l' r (hbig k _ o (hget k hlt) hk) (hbig j _ o' (hget j hlt') hj) (fun e => hne (hinj k j hlt hlt' e)) hl hl' hb
 have hwf0 : Wf (eZ objs) := ⟨fun k hk => by
   show ba (pn 0 objs) k = none
   rw [gu, if_pos (Nat.zero_le _)]
   have hk : objs.length ≤ k := hk
   exact List.getElem?_eq_none (by omega), fun k hk => (by cases hk), Nat.zero_le _⟩
 have hn0 : (eZ objs').next = (eZ objs).next := h.len
 have hd0 : aM c0 args vs := (aM.ren hρ0 rfl args vs h.na).1 hd
 refine (h.sem.ok hr0 hwf0 (fun k h1 h2 => by rw [hn0] at h2; omega) hd0).mono fun e w' he => ?_
 obtain ⟨v, rfl, c1, gd⟩ := he
 refine ⟨v, rfl, ?_⟩
 let c' : Ctx := ⟨fun n => if hx : ∃ i, i < m ∧ σ i = n then c1.ρ hx.choose else c.ρ n, c1.fz⟩
 have hin' : ∀ i, i < m → c'.ρ (σ i) = c1.ρ i := fun i hi => by
  have hx : ∃ j, j < m ∧ σ j = σ i := ⟨i, hi, rfl⟩
  show (if hx : ∃ j, j < m ∧ σ j = σ i then c1.ρ hx.choose else c.ρ (σ i)) = _
  rw [dif_pos hx]
  rw [hinj _ _ hx.choose_spec.1 hi hx.choose_spec.2]
 have hout : ∀ n, n ∉ ks → c'.ρ n = c.ρ n := fun n hn => by
  have hx : ¬ ∃ j, j < m ∧ σ j = n := fun ⟨j, h1, h2⟩ => hn (h2 ▸ hin j h1)
  show (if hx : ∃ j, j < m ∧ σ j = n then c1.ρ hx.choose else c.ρ n) = _
  rw [dif_neg hx]
 have hown0 : ∀ r, eD c0 (eZ objs).look r → eD c big.look r := fun r ⟨k, o, l, h1, h2, h3⟩ => by
  rw [dx] at h1
  have hlt : k < m := (List.getElem?_eq_some_iff.1 h1).1
  exact ⟨σ k, _, l, hbig k _ o (hget k hlt) h1, (hρ0 k hlt).trans h2, h3⟩
 have hle : Le c c' := by
  refine ⟨fun n l hl => ?_, gd.step.le.fz⟩
  by_cases hn : n ∈ ks
  ·obtain ⟨i, hi, rfl⟩ := hmem n hn
   rw [hρ0 i hi] at hl
   obtain ⟨l', h1, h2⟩ := gd.step.le.ρ i l hl
   exact ⟨l', (hin' i hi).trans h1, h2⟩
  ·exact ⟨l, (hout n hn).trans hl, cS.refl l⟩
 have hfar : ∀ n o l b, n ∉ ks → big.look n = some o → c.ρ n = some l → fX l = some b → ¬ eD c0 (eZ objs).look b := fun n o l b hn ho hl hb ⟨k, o', l', h1, h2, h3⟩ => by
  rw [dx] at h1
  have hlt : k < m := (List.getElem?_eq_some_iff.1 h1).1
  exact hr.sep n (σ k) o _ l l' b ho (hbig k _ o' (hget k hlt) h1) (fun e => hn (e ▸ hin k hlt)) hl ((hρ0 k hlt).trans h2) hb h3
 have hown1 : ∀ r, eD c' (fD σ ks objs' big).look r → eD c big.look r ∨ w.heap.size ≤ r := fun r ⟨n, o, l, h1, h2, h3⟩ => by
  by_cases hn : n ∈ ks
  ·obtain ⟨i, hi, rfl⟩ := hmem n hn
   rw [hin' i hi] at h2
   exact (gd.step.owns r ⟨i, _, l, by rw [dx]; exact List.getElem?_eq_getElem (h.len ▸ hi), h2, h3⟩).imp (hown0 r) id
  ·rw [p3 n hn] at h1
   exact .inl ⟨n, o, l, h1, (hout n hn) ▸ h2, h3⟩
 refine ⟨c', (Den.ren hin' rfl s v h.ns).2 gd.val, ⟨fun n o ho => ?_, fun n j o o' l l' r hn hj hne hl hl' hb => ?_, gd.rep.fz⟩, hle, fun n hn e => ?_, fun n l hn hl => ?_, gd.step.os, gd.step.tape, gd.step.output, gd.step.size, fun r hlt hno => gd.step.kept r hlt fun ho => hno (hown0 r ho), hown1, fun b i v hv => ?_⟩
 ·by_cases hn : n ∈ ks
  ·obtain ⟨i, hi, rfl⟩ := hmem n hn
   have hi' : i < objs'.length := h.len ▸ hi
   have h1 := p4 i (σ i) _ (hget i hi) (List.getElem?_eq_getElem hi')
   rw [h1] at ho
   cases ho
   obtain ⟨l, h2, h3⟩ := gd.rep.cW i _ (by rw [dx]; exact List.getElem?_eq_getElem hi')
   obtain ⟨g1, g2⟩ := h.po' _ (List.getElem_mem hi')
   exact ⟨l, (hin' i hi).trans h2, (dG.ren hin' rfl g1 g2 l w').2 h3⟩
  ·rw [p3 n hn] at ho
   obtain ⟨l, h1, h2⟩ := hr.cW n o ho
   refine ⟨l, (hout n hn).trans h1, h2.pk hle (fun b hb => gd.step.kept b (h2.lt hb) (hfar n o l b hn ho h1 hb)) fun b hb i v hv => ?_⟩
   rcases gd.step.nfz b i v hv with h3 | h3 | h3
   ·exact h3
   ·exact (hfar n o l b hn ho h1 hb h3).elim
   ·have := h2.lt hb; omega
 ·have key : ∀ n j o o' l l' r, (fD σ ks objs' big).look n = some o → (fD σ ks objs' big).look j = some o' → n ∈ ks → j ∉ ks → c'.ρ n = some l → c'.ρ j = some l' → fX l = some r → fX l' ≠ some r := fun n j o o' l l' r hn hj h1 h2 hl hl' hb hb' => by
   obtain ⟨i, hi, rfl⟩ := hmem n h1
   rw [hin' i hi] at hl
   rw [hout j h2] at hl'
   rw [p3 j h2] at hj
   obtain ⟨l2, h5, h6⟩ := hr.cW j o' hj
   rw [hl'] at h5
   cases h5
   rcases gd.step.owns r ⟨i, _, l, by rw [dx]; exact List.getElem?_eq_getElem (h.len ▸ hi), hl, hb⟩ with h3 | h3
   ·exact hfar j o' l' r h2 hj hl' hb' h3
   ·have := h6.lt hb'; omega
  by_cases h1 : n ∈ ks <;> by_cases h2 : j ∈ ks
  ·obtain ⟨i, hi, rfl⟩ := hmem n h1
   obtain ⟨i', hi', rfl⟩ := hmem j h2
   rw [hin' i hi] at hl
   rw [hin' i' hi'] at hl'
   exact gd.rep.sep i i' _ _ l l' r (by rw [dx]; exact List.getElem?_eq_getElem (h.len ▸ hi)) (by rw [dx]; exact List.getElem?_eq_getElem (h.len ▸ hi')) (fun e => hne (by rw [e])) hl hl' hb
  ·exact key n j o o' l l' r hn hj h1 h2 hl hl' hb
  ·exact fun hb' => key j n o' o l' l r hj hn h2 h1 hl' hl hb' hb
  ·rw [p3 n h1] at hn
   rw [p3 j h2] at hj
   exact hr.sep n j o o' l l' r hn hj hne ((hout n h1) ▸ hl) ((hout j h2) ▸ hl') hb
 ·by_cases h1 : n ∈ ks
  ·obtain ⟨o, ho⟩ := hsome n h1
   obtain ⟨l, hl, _⟩ := hr.cW n o ho
   rw [hl] at e
   cases e
  ·exact (hout n h1).trans e
 ·have h1 : n ∉ ks := fun h1 => by
   obtain ⟨o, ho⟩ := hsome n h1
   rw [hn] at ho
   cases ho
  exact ⟨(p3 n h1).trans hn, (hout n h1).trans hl⟩
 ·rcases gd.step.nfz b i v hv with h3 | h3 | h3
  ·exact .inl h3
  ·exact .inr (.inl (hown0 b h3))
  ·exact .inr (.inr h3)
structure hO (m : Nat) (l : List SVal) (st : St) (K : List SVal → List aV → Prop) : Prop where
 out : ∃ objs', iF m (eZ objs') st ∧ objs'.length = m ∧ (∀ o ∈ objs', plainO o = true ∧ nbO m o = true) ∧ nbL m l = true ∧ K l objs'
structure MutR (m : Nat) (l : List SVal) (st : St) (K : List SVal → List aV → Prop) : Prop where
 out : ∃ l' st', FzL st l l' st' ∧ hO m l' st' K
theorem cy {m : Nat} {l : List SVal} {st : St} {K : List SVal → List aV → Prop} (h : hO m l st K) : MutR m l st K := ⟨l, st, mS l, h⟩
theorem aR {m : Nat} {l : List SVal} {st : St} {K : List SVal → List aV → Prop} (h : fzN l st fun l' st' => hO m l' st' K) : MutR m l st K := ⟨gw h⟩
def iO (m : Nat) : List aV → Prop
 | [] => True
 | o :: r => plainO o = true ∧ nbO m o = true ∧ iO m r
theorem ic {m : Nat} : ∀ {l : List aV}, iO m l → ∀ o ∈ l, plainO o = true ∧ nbO m o = true
 | [], _, o, h => by cases h
 | a :: r, ⟨h1, h2, h3⟩, o, h => by
  rcases List.mem_cons.1 h with rfl | h
  ·exact ⟨h1, h2⟩
  ·exact ic h3 o h
def stands (t : Hp) : Nat → List aV → Prop
 | _, [] => True
 | i, o :: r => ba t i = some o ∧ stands t (i + 1) r
theorem nA {t : Hp} : ∀ {l : List aV} {i : Nat}, stands t i l → ∀ k, i ≤ k → k < i + l.length → ba t k = l[k - i]?
 | [], i, _, k, h1, h2 => by simp at h2; omega
 | o :: r, i, ⟨h1, h2⟩, k, h3, h4 => by
  by_cases e : k = i
  ·subst e; simpa using h1
  ·have := nA h2 k (by omega) (by simp at h4; omega)
   rw [this]
   have : k - i = (k - (i + 1)) + 1 := by omega
   rw [this]; simp
theorem cU {m : Nat} {l : List SVal} {heap : Hp} {next : Nat} {K : List SVal → List aV → Prop} (objs' : List aV) (hl : objs'.length = m) (hs : stands heap 0 objs') (hp : iO m objs') (hn : nbL m l = true) (hx : m ≤ next) (k : K l objs') : hO m l ⟨heap, next, 0, [], []⟩ K := by
 refine ⟨objs', ⟨by rw [← hl] at hx; exact hx, Nat.le_of_eq hl.symm, rfl, rfl, rfl, fun k hk => (by cases hk), fun k o hk => ?_, fun k hk => ?_⟩, hl, ic hp, hn, k⟩
 ·have hk : ba (pn 0 objs') k = some o := hk
  rw [gu, if_pos (Nat.zero_le _), Nat.sub_zero] at hk
  have hlt : k < objs'.length := (List.getElem?_eq_some_iff.1 hk).1
  refine ⟨(nA hs k (Nat.zero_le _) (by omega)).trans (by simpa using hk), ?_, hlt⟩
  show nbO objs'.length o = true
  rw [hl]
  exact (ic hp o (List.mem_of_getElem? hk)).2
 ·show ba (pn 0 objs') k = ba heap k
  rw [gu, if_pos (Nat.zero_le _), nA hs k (Nat.zero_le _) (by omega)]
section
variable (P : Program) (E : Env)
noncomputable def finM (m : Nat) (rs : List ResultVar) (Ψ : SVal → List aV → Prop) (x : Ex) (fr : Fr) (st : St) : Prop := match x with
 | .exit _ => False
 | _ => resK E fr st rs fun ss => MutR m ss st fun ss' objs' => match ss' with
  | [v] => Ψ v objs'
  | vs => Ψ (.tup vs) objs'
noncomputable def xM (fn : Func) (objs : List aV) (args : List SVal) (Ψ : SVal → List aV → Prop) : Prop := match fn with
 | { ntmps := n, results := rs, body := some b, .. } => yes (Nat.ble args.length n) <| got (sB 0 args) fun t => xC P E objs.length b ⟨n, t⟩ ⟨pn 0 objs, objs.length, 0, [], []⟩ (finM E objs.length rs.toList Ψ)
 | _ => False
def sK (f : FuncId) (objs : List aV) (args : List SVal) (Ψ : SVal → List aV → Prop) : Prop := ∃ s objs', sJ P f objs args s objs' ∧ Ψ s objs'
theorem mD {m : Nat} {ss : List SVal} (h : nbL m ss = true) : nb m (lI ss) = true := by
 match ss, h with
 | [], _ => rfl
 | [v], h => exact (Bool.and_eq_true .. ▸ h : _ ∧ _).1
 | a :: b :: r, h => exact h
theorem finM_ok {m : Nat} {rs : List ResultVar} {Ψ : SVal → List aV → Prop} {x : Ex} {fr : Fr} {st : St} (h : finM E m rs Ψ x fr st) : oW x = true ∧ ∃ ss, mb E fr st rs ss ∧ ∃ ss' st2, FzL st ss ss' st2 ∧ hO m ss' st2 fun l o => Ψ (lI l) o := by
 unfold finM at h
 split at h
 ·exact h.elim
 ·rename_i hx
  obtain ⟨ss, h1, g⟩ := kA E h
  obtain ⟨ss', st2, h2, ⟨objs', g1, g2, g3, g4, g5⟩⟩ := g.out
  refine ⟨?_, ss, h1, ss', st2, h2, ⟨objs', g1, g2, g3, g4, ?_⟩⟩
  ·cases x with
   | exit j => exact (hx j rfl).elim
   | normal => rfl
   | ret => rfl
  ·split at g5
   ·exact g5
   ·rename_i hv
    match ss', hv, g5 with
    | [], _, g => exact g
    | [v], hv, _ => exact (hv v rfl).elim
    | a :: b :: r, _, g => exact g
theorem small_sta {objs objs' : List aV} (h : objs'.length = objs.length) : Sta (eZ objs) (eZ objs') where
 ban := rfl
 mark := rfl
 next := Nat.le_of_eq h.symm
 log := fun _ h => h
 same := fun k _ h2 => absurd h2 (Nat.not_lt_zero k)
 wf := fun _ k hk => by
  have hk : objs'.length ≤ k := hk
  show ba (pn 0 objs') k = none
  rw [gu, if_pos (Nat.zero_le _)]
  exact List.getElem?_eq_none (by omega)
 vis := fun n hn => .inl hn
theorem pN (hE : a7 P E) {f : FuncId} {fn : Func} (hf : E.funcs.get f = some fn) {objs : List aV} {args : List SVal} {Ψ : SVal → List aV → Prop} (hp : iO objs.length objs) (hn : nbL objs.length args = true) (h : xM P E fn objs args Ψ) : sK P f objs args Ψ := by
 unfold xM at h
 split at h
 ·obtain ⟨h1, g⟩ := bG h
  obtain ⟨t, h2, g⟩ := aE g
  cases nj h2
  obtain ⟨x, fr', st', h3, h4⟩ := gG P E objs.length hE g
  obtain ⟨h5, ss, h6, ss', st2, h7, ⟨objs', k1, k2, k3, k4, k5⟩⟩ := finM_ok E h4
  have hnext : (eZ objs').next = objs.length := k2
  refine ⟨lI ss', objs', ⟨wu hE hf rfl (small_sta k2) (fun k o hk => ?_) hn ?_, k2, ic hp, k3, hn, mD k4⟩, k5⟩
  ·have hk : ba (pn 0 objs) k = some o := hk
   rw [gu, if_pos (Nat.zero_le _), Nat.sub_zero] at hk
   exact (ic hp o (List.mem_of_getElem? hk)).2
  ·unfold entry
   rw [show args.length + (_ - args.length) = _ from Nat.add_sub_of_le (Nat.le_of_ble_eq_true h1)]
   exact h3 _ ⟨h5, ss, h6, ss', st2, h7, rfl, k1, by rw [hnext]; exact mD k4⟩
 ·exact h.elim
def looks (σ : Nat → Nat) (big : St) : List Nat → List aV → Prop
 | k :: ks, o :: os => big.look k = some (ef σ o) ∧ looks σ big ks os
 | [], [] => True
 | _, _ => False
end
def sameH (h h1 : Hp) : Nat → Prop
 | 0 => True
 | k + 1 => ba h1 k = ba h k ∧ sameH h h1 k
theorem xt {h h1 : Hp} : ∀ {n : Nat}, sameH h h1 n → ∀ k, k < n → ba h1 k = ba h k
 | 0, _, k, hk => by omega
 | n + 1, ⟨g1, g2⟩, k, hk => by
  by_cases e : k = n
  ·subst e; exact g1
  ·exact xt g2 k (by omega)
theorem fitsM {lo n next next1 : Nat} {t t1 : List (Nat × SVal)} {h h1 : Hp} (hf : subF next1 t t1) (hh : jy next1 h h1) (hs : sameH h h1 lo) (hn : next1 ≤ next) (hlo : lo ≤ next1) : Fits lo ⟨n, t⟩ ⟨h, next, 0, [], []⟩ ⟨n, t1⟩ ⟨h1, next1, 0, [], []⟩ where
 fr := ⟨rfl, pD hf⟩
 st := {
  next := hn
  low := hlo
  ban := rfl
  mark := rfl
  log := rfl
  bans := fun k hk => by cases hk
  heap := eo hh
  same := fun k hk => xt hs k hk }
section
variable {P : Program} {E : Env}
theorem bd (hE : a7 P E) {lo : Nat} {z : Code} {fr : Fr} {st : St} {K : Ex → Fr → St → Prop} (h : xC P E lo z fr st (w8 (fun fr st => dS P lo z fr st K) K)) : dS P lo z fr st K := ⟨R.loop (gG P E lo hE h)⟩
structure EndI (next : Nat) (ss : List SVal) (st : St) (K : List SVal → St → Prop) : Prop where
 out : ∃ heap2 next2, iF next ⟨heap2, next2, 0, [], []⟩ st ∧ jy next2 heap2 heap2 ∧ nbL next2 ss = true ∧ K ss ⟨heap2, next2, 0, [], []⟩
theorem end_all {next : Nat} {ss : List SVal} {heap : Hp} {next1 : Nat} {K : List SVal → St → Prop} (hn : next ≤ next1) (hh : jy next1 heap heap) (hs : nbL next1 ss = true) (k : K ss ⟨heap, next1, 0, [], []⟩) : EndI next ss ⟨heap, next1, 0, [], []⟩ K :=
 ⟨heap, next1, ⟨Nat.le_refl _, hn, rfl, rfl, rfl, (fun k hk => by cases hk), eo hh, fun _ _ => rfl⟩, hh, hs, k⟩
noncomputable def finI (E : Env) (next : Nat) (rs : List ResultVar) (K : SVal → St → Prop) (x : Ex) (fr : Fr) (st : St) : Prop := match x with
 | .exit _ => False
 | _ => resK E fr st rs fun ss => EndI next ss st fun ss st => match ss with
  | [v] => K v st
  | vs => K (.tup vs) st
theorem finI_ok {next : Nat} {rs : List ResultVar} {K : SVal → St → Prop} {x : Ex} {fr : Fr} {st : St} (h : finI E next rs K x fr st) : oW x = true ∧ ∃ ss, mb E fr st rs ss ∧ EndI next ss st fun ss st => K (lI ss) st := by
 unfold finI at h
 split at h
 ·exact h.elim
 ·rename_i hx
  obtain ⟨ss, h1, ⟨a, b, g1, g2, g3, g4⟩⟩ := kA E h
  refine ⟨?_, ss, h1, ⟨a, b, g1, g2, g3, ?_⟩⟩
  ·cases x with
   | exit j => exact (hx j rfl).elim
   | normal => rfl
   | ret => rfl
  ·split at g4
   ·exact g4
   ·rename_i hv
    match ss, hv, g4 with
    | [], _, g => exact g
    | [v], hv, _ => exact (hv v rfl).elim
    | a :: b :: r, _, g => exact g
noncomputable def xI (P : Program) (E : Env) (fn : Func) (args : List SVal) (heap : Hp) (next : Nat) (K : SVal → St → Prop) : Prop := match fn with
 | { ntmps := n, results := rs, body := some b, .. } => yes (Nat.ble args.length n) <| got (sB 0 args) fun t => xC P E next b ⟨n, t⟩ ⟨heap, next, 0, [], []⟩ (finI E next rs.toList K)
 | _ => False
theorem call_in (hE : a7 P E) {f : FuncId} (fn : Func) (hf : E.funcs.get f = some fn) {args : List SVal} {heap : Hp} {next : Nat} {K : SVal → St → Prop} (hh : jy next heap heap) (ha : nbL next args = true) (h : xI P E fn args heap next K) : dI P f args ⟨heap, next, 0, [], []⟩ K := by
 unfold xI at h
 split at h
 ·obtain ⟨h1, g⟩ := bG h
  obtain ⟨t, h2, g⟩ := aE g
  cases nj h2
  obtain ⟨x, fr', st', h3, h4⟩ := gG P E next hE g
  obtain ⟨h5, ss, h6, ⟨heap2, next2, k1, k2, k3, k4⟩⟩ := finI_ok h4
  have hsta : Sta ⟨heap, next, 0, [], []⟩ ⟨heap2, next2, 0, [], []⟩ := {
   ban := rfl
   mark := rfl
   next := k1.low
   log := fun _ h => h
   same := fun k _ h2 => absurd h2 (Nat.not_lt_zero k)
   wf := fun _ k hk => by
    have hk : next2 ≤ k := hk
    show ba heap2 k = none
    cases hx : ba heap2 k with
    | none => rfl
    | some o => have := (eo k2 k o hx).2.2; omega
   vis := fun n hn => .inl hn }
  refine ⟨_, _, fun _ _ _ _ _ _ _ ho hc hf' hev he => hZ ho hc hf' hev ?_, k4⟩
  rw [he]
  refine wu hE hf rfl hsta (fun k o hk => (eo hh k o hk).2.1) ha ?_
  unfold entry
  rw [show args.length + (_ - args.length) = _ from Nat.add_sub_of_le (Nat.le_of_ble_eq_true h1)]
  exact h3 _ ⟨h5, ss, h6, ss, st', mS ss, rfl, k1, mD k3⟩
 ·exact h.elim
end
def IsB (s : SVal) : Prop := ∃ r, s = .bool r
theorem qX {st : St} {c : Ctx} {w : World} (hr : Rep c st.look w) (hf : c.ρ st.next = none) (hwf : Wf st) (m : Nat) :
  ∃ c', Rep c' (st.fresh (.row m [] 0 false)).look w ∧ Step st.next (st.fresh (.row m [] 0 false)).next c st.look w c' (st.fresh (.row m [] 0 false)).look w ∧ (∀ k, k ≠ st.next → c'.ρ k = c.ρ k) ∧ ∀ v, Den c .az v → Den c' (.own st.next 0) v := by
 obtain ⟨g1, g2⟩ := fm (o := .row m [] 0 false) (l := .row none 0 m (.slice none 0 0)) hr hf hwf (cE.refl w) (fun b hb => by cases hb) ⟨rfl, rfl, rfl, none, rfl⟩
 refine ⟨_, g1, g2, fun k hk => ?_, fun v hv => ?_⟩
 ·show (if k = st.next then _ else c.ρ k) = _
  rw [if_neg hk]
 ·cases hv
  exact fy (b8 _ _ _) ⟨_, _, _, rfl⟩
theorem W.name {P : Program} {lo : Nat} {z : Code} {fr fr1 : Fr} {st : St} {Φ : Ex → Fr → St → Prop} (m : Nat) (hn : fr1.n = fr.n) (hf : ∀ t x, fr1.get t = some x → fr.get t = some x ∨ (fr.get t = some .az ∧ x = .own st.next 0))
  (h : W P lo z fr1 (st.fresh (.row m [] 0 false)) Φ) : W P lo z fr st Φ := by
 intro ro B D c w a he hr Q hq
 obtain ⟨c', h2, h3, h5, h4⟩ := qX he.rep (he.dom _ (Nat.le_refl _)) he.wf m
 have hs : dr lo c st.look w c' (st.fresh (.row m [] 0 false)).look w := h3.c he.low
 have hsta := cO st (.row m [] 0 false)
 have ht := hsta.c he.low
 refine h ⟨h2, he.wf.sta hsta, fun n hn => ?_, ⟨by rw [hn]; exact he.fr.size, fun t x hx => ?_, he.fr.defers⟩, he.mks, he.base, Nat.le_trans he.low hsta.next, by rw [hsta.mark]; exact he.mark⟩ hr fun x fr' st' D' c2 a' w' g1 g2 g3 g4 g5 => hq x fr' st' D' c2 a' w' g1 g2 (hs.trans g3) (ht.trans g4) (g5.trans hn)
 ·have hn : st.next + 1 ≤ n := hn
  rw [h5 n (by omega)]
  exact he.dom n (by omega)
 ·rcases hf t x hx with e | ⟨e, rfl⟩
  ·obtain ⟨v, e1, e2⟩ := he.fr.get t x e
   exact ⟨v, e1, Den.le h3.le _ _ e2⟩
  ·obtain ⟨v, e1, e2⟩ := he.fr.get t _ e
   exact ⟨v, e1, h4 v e2⟩
theorem R.name {P : Program} {lo : Nat} {z : Code} {fr fr1 : Fr} {st : St} {K : Ex → Fr → St → Prop} (m : Nat) (hn : fr1.n = fr.n) (hf : ∀ t x, fr1.get t = some x → fr.get t = some x ∨ (fr.get t = some .az ∧ x = .own st.next 0))
  (h : R P lo z fr1 (st.fresh (.row m [] 0 false)) K) : R P lo z fr st K := by
 obtain ⟨x, fr', st', h1, h2⟩ := h
 exact ⟨x, fr', st', fun Φ hΦ => W.name m hn hf (h1 Φ hΦ), h2⟩
theorem b0 {P : Program} {lo : Nat} {z : Code} {n : Nat} {t : List (Nat × SVal)} {heap : Hp} {next mark : Nat} {log : List Nat} {ban : List (Nat × Nat)} {K : Ex → Fr → St → Prop} (d m : Nat) (hd : ba t d = some .az)
  (h : dS P lo z ⟨n, (d, .own next 0) :: t⟩ ⟨(next, .row m [] 0 false) :: heap, next + 1, mark, log, ban⟩ K) : dS P lo z ⟨n, t⟩ ⟨heap, next, mark, log, ban⟩ K := by
 refine ⟨R.name (fr1 := ⟨n, (d, .own next 0) :: t⟩) m rfl (fun k x hx => ?_) h.out⟩
 have h1 : (if d = k then some (SVal.own next 0) else ba t k) = some x := (bI (d, SVal.own next 0) t k).symm.trans hx
 by_cases e : d = k
 ·rw [if_pos e] at h1
  exact .inr ⟨e ▸ hd, (Option.some.inj h1).symm⟩
 ·rw [if_neg e] at h1
  exact .inl h1
def grd (c : Prop) [Decidable c] : Option Unit := if c then some () else none
section
variable {α β : Type}
abbrev aN (l : List α) : Option Unit := grd (l.length ≤ 1000000000)
def atI (l : List α) (i : Int) : Option α := if 0 ≤ i then l[i.toNat]? else none
def iL (l : List α) (i : Int) (x : α) : Option (List α) := if 0 ≤ i ∧ i < l.length then some (l.set i.toNat x) else none
def nP (l : List α) (i : Int) (f : α → α) : Option (List α) := (atI l i).bind fun x => some (l.set i.toNat (f x))
def atA (m : Nat) (l : List α) (i : Int) : Option α := if 0 ≤ i ∧ i < m then l[i.toNat]? else none
def ph (m : Nat) (l : List α) (i : Int) (x : α) : Option (List α) := if 0 ≤ i ∧ i < m ∧ i < l.length then some (l.set i.toNat x) else none
def push (l : List α) (x : α) : Option (List α) := if l.length < 1000000000 then some (l ++ [x]) else none
def jF (l r : List α) : Option (List α) := if l.length + r.length ≤ 1000000000 then some (l ++ r) else none
theorem ae {x : Option α} {k : α → Option β} {r : β} (h : x.bind k = some r) : ∃ v, x = some v ∧ k v = some r := Option.bind_eq_some_iff.1 h
theorem aG {x : Option α} {r : α} (h : x = some r) : x.bind some = some r := by subst h; rfl
theorem aj {c : Prop} [Decidable c] {k : Unit → Option β} {r : β} (h : (grd c).bind k = some r) : c ∧ k () = some r := by
 unfold grd at h
 by_cases hc : c
 ·rw [if_pos hc] at h; exact ⟨hc, h⟩
 ·rw [if_neg hc] at h; cases h
theorem toNat_eq {i : Int} (h : 0 ≤ i) : i = ((i.toNat : Nat) : Int) := by omega
theorem aB {l : List α} {i : Int} {k : α → Option β} {r : β} (h : (atI l i).bind k = some r) : ∃ (j : Nat) (x : α), i = (j : Int) ∧ l[j]? = some x ∧ k x = some r := by
 obtain ⟨x, h1, h2⟩ := ae h
 unfold atI at h1
 split at h1
 ·rename_i h0
  exact ⟨i.toNat, x, toNat_eq h0, h1, h2⟩
 ·cases h1
theorem cF {l : List α} {i : Int} {y : α} {k : List α → Option β} {r : β} (h : (iL l i y).bind k = some r) : ∃ (j : Nat) (x : α), i = (j : Int) ∧ l[j]? = some x ∧ k (l.set j y) = some r := by
 obtain ⟨x, h1, h2⟩ := ae h
 unfold iL at h1
 split at h1
 ·rename_i h0
  cases h1
  exact ⟨i.toNat, l[i.toNat]'(by omega), toNat_eq h0.1, List.getElem?_eq_getElem (by omega), h2⟩
 ·cases h1
theorem bL {l : List α} {i : Int} {f : α → α} {k : List α → Option β} {r : β} (h : (nP l i f).bind k = some r) : ∃ (j : Nat) (x : α), i = (j : Int) ∧ l[j]? = some x ∧ k (l.set j (f x)) = some r := by
 unfold nP at h
 rw [Option.bind_assoc] at h
 obtain ⟨j, x, h1, h2, h3⟩ := aB h
 refine ⟨j, x, h1, h2, ?_⟩
 rw [Option.bind_some, show i.toNat = j by omega] at h3
 exact h3
theorem gB {m : Nat} {l : List α} {i : Int} {k : α → Option β} {r : β} (h : (atA m l i).bind k = some r) : ∃ (j : Nat) (x : α), i = (j : Int) ∧ j < m ∧ l[j]? = some x ∧ k x = some r := by
 obtain ⟨x, h1, h2⟩ := ae h
 unfold atA at h1
 split at h1
 ·rename_i h0
  exact ⟨i.toNat, x, toNat_eq h0.1, by omega, h1, h2⟩
 ·cases h1
theorem dF {m : Nat} {l : List α} {i : Int} {y : α} {k : List α → Option β} {r : β} (h : (ph m l i y).bind k = some r) : ∃ (j : Nat) (x : α), i = (j : Int) ∧ j < m ∧ l[j]? = some x ∧ k (l.set j y) = some r := by
 obtain ⟨x, h1, h2⟩ := ae h
 unfold ph at h1
 split at h1
 ·rename_i h0
  cases h1
  exact ⟨i.toNat, l[i.toNat]'(by omega), toNat_eq h0.1, by omega, List.getElem?_eq_getElem (by omega), h2⟩
 ·cases h1
theorem aD {l : List α} {x : α} {k : List α → Option β} {r : β} (h : (push l x).bind k = some r) : l.length < 1000000000 ∧ k (l ++ [x]) = some r := by
 unfold push at h
 split at h
 ·rename_i h0; exact ⟨h0, h⟩
 ·cases h
theorem dN {l x : List α} {k : List α → Option β} {r : β} (h : (jF l x).bind k = some r) : l.length + x.length ≤ 1000000000 ∧ k (l ++ x) = some r := by
 unfold jF at h
 split at h
 ·rename_i h0; exact ⟨h0, h⟩
 ·cases h
end
theorem nt {b : Bool} (h : b = false) : ¬ b = true := by rw [h]; exact Bool.noConfusion
inductive Ctl (R S : Type) where
 | ret (r : R)
 | nxt (s : S)
section
variable {α : Type} {f : α → List SVal} {l : List α}
theorem a6 {j : Nat} {x : α} {sz : Nat} {K : List SVal → Prop} (h : l[j]? = some x) (hl : (f x).length = sz) (k : K (f x)) : AtR (l.map f) (j : Int) sz K := ⟨j, f x, rfl, by rw [List.getElem?_map, h]; rfl, hl, k⟩
theorem bf {n : Int} {j : Nat} {x : α} {sz : Nat} {K : List SVal → Prop} (en : n = (j : Int)) (h : l[j]? = some x) (hl : (f x).length = sz) (k : K (f x)) : AtR (l.map f) n sz K := by
 subst en; exact a6 h hl k
theorem kN {j : Nat} {x : α} (h : l[j]? = some x) : j < l.length := (List.getElem?_eq_some_iff.1 h).1
theorem b5 {n : Int} {m j : Nat} {K : Nat → Prop} (en : n = (j : Int)) (h : j < m) (k : K j) : InR2 n m K := ⟨j, en, h, k⟩
theorem aK {n : Int} {j : Nat} {x : α} {K : Nat → Prop} (en : n = (j : Int)) (h : l[j]? = some x) (k : K j) : InR2 n (l.map f).length K := ⟨j, en, by rw [List.length_map]; exact kN h, k⟩
theorem bw {j : Nat} {x : α} {K : List SVal → Prop} (h : l[j]? = some x) (k : K (f x)) : RowR (l.map f) j K := ⟨f x, by rw [List.getElem?_map, h]; rfl, k⟩
theorem drop_cons {i : Nat} (h : ((i : Nat) : Int) < (((l.map f).length : Nat) : Int)) : ∃ x, l[i]? = some x ∧ l.drop i = x :: l.drop (i + 1) := by
 rw [List.length_map] at h
 have hi : i < l.length := by omega
 exact ⟨l[i], List.getElem?_eq_getElem hi, List.drop_eq_getElem_cons hi⟩
theorem au {i : Nat} (h : ((i : Nat) : Int) < ((l.length : Nat) : Int)) : ∃ x, l[i]? = some x ∧ l.drop i = x :: l.drop (i + 1) := by
 have hi : i < l.length := by omega
 exact ⟨l[i], List.getElem?_eq_getElem hi, List.drop_eq_getElem_cons hi⟩
theorem av {i : Nat} (h : ¬ ((i : Nat) : Int) < ((l.length : Nat) : Int)) : l.drop i = [] := List.drop_eq_nil_of_le (by omega)
end
theorem cB {n i : Nat} (h : (i : Int) < (n : Int)) : n - i = (n - (i + 1)) + 1 := by omega
theorem cA {n i : Nat} (h : ¬ (i : Int) < (n : Int)) : n - i = 0 := by omega
section
variable {α : Type} {g : α → SVal} {l : List α}
theorem yT {j : Nat} {x : α} (h : l[j]? = some x) : (l.map g).drop j = g x :: (l.map g).drop (j + 1) := by
 have hj : j < (l.map g).length := by rw [List.length_map]; exact kN h
 rw [List.drop_eq_getElem_cons hj]
 congr 1
 rw [List.getElem_map]
 congr 1
 exact Option.some.inj ((List.getElem?_eq_getElem (kN h)).symm.trans h)
theorem layO_nil : ∀ l : List SVal, yt l [] = some l
 | [] => rfl
 | _ :: _ => rfl
theorem tQ : ∀ {l : List α} {j : Nat} {y : α}, j < l.length → ij (l.map g) j [g y] = some ((l.set j y).map g)
 | [], j, y, h => by simp at h
 | a :: l, 0, y, _ => by
  show yt (g a :: l.map g) [g y] = _
  unfold yt
  rw [layO_nil]
  rfl
 | a :: l, j + 1, y, h => by
  have := tQ (l := l) (j := j) (y := y) (by simpa using h)
  show ij (g a :: l.map g) (j + 1) [g y] = _
  unfold ij
  rw [this]
  rfl
theorem dO {E : Env} {t : TypeId} {off j : Nat} {x : α} (h : l[j]? = some x) (ho : off = j) (ha : aggT E t = some false) : rh E t ((l.map g).drop off) = some (g x) := by
 subst ho
 rw [yT h]
 unfold rh
 rw [ha]
theorem c9 {off j : Nat} {x y : α} (h : l[j]? = some x) (ho : off = j) : ij (l.map g) off [g y] = some ((l.set j y).map g) := by
 subst ho; exact tQ (kN h)
end
section
variable {P : Program}
theorem bH {f : FuncId} {args args' : List SVal} {v : SVal} {st : St} {K : SVal → St → Prop} (h : Has P f args' fun s => s = v) (hs : pF v = true) (k : fzN args st fun l _ => l = args' ∧ K v st) : dI P f args st K := by
 obtain ⟨s, h1, rfl⟩ := h
 obtain ⟨l', st', g1, rfl, g2⟩ := gw k
 exact ⟨s, st, fun _ _ _ _ _ _ _ ho hc hf hev he => sV ho hc hf hev (he ▸ g1) hs h1, g2⟩
theorem eA {f : FuncId} {args args' : List SVal} {v : SVal} {st : St} {K : SVal → St → Prop} (h : Has P f args' fun s => s = v) (k : fzN args st fun l st' => l = args' ∧ K v st') : dI P f args st K := by
 obtain ⟨s, h1, rfl⟩ := h
 exact call_frz P h1 k
theorem k7 {f : FuncId} {args args' : List SVal} {v : SVal} {st : St} {K : SVal → St → Prop} (h : Has P f args' fun s => s = v) (ha : cg args = args') (k : K v st) : dI P f args st K := by
 obtain ⟨s, h1, rfl⟩ := h
 exact call_pure P h1 ha k
end
theorem gU {α : Type} (f : α → List SVal) {n : Nat} (n' : Nat) {row : List SVal} {K : List (List SVal) → Prop} (x : α) (hn : n = n') (h : f x = row) (k : K ((List.replicate n' x).map f)) : AsR (List.replicate n row) K := by
 subst hn; exact as_rep f x h k
theorem gn {st : St} {k : Nat} {o o' : aV} (hk : st.look k = some o) {c : Ctx} {w : World} (hr : Rep c st.look w) (ho : ∀ l, dG c o l w → dG c o' l w) : Rep c (st.put k o').look w ∧ Step st.next (st.put k o').next c st.look w c (st.put k o').look w := by
 obtain ⟨l, h1, h2⟩ := hr.cW _ _ hk
 exact dC hr hk h1 h1 (cS.refl l) (fun _ _ => rfl) (fun _ _ _ h => h) (fun b i v h => .inl h) (fun r h => .inl h) ⟨rfl, rfl, rfl, Nat.le_refl _, fun _ _ _ => rfl⟩ (fun b i v _ hv => hr.fz b i v hv) (ho l h2)
theorem jS {c : Ctx} {s s' : SVal} (hs : ∀ v, Den c s v → Den c s' v) : ∀ {l : List SVal} {i : Nat} {vs : List Value}, l[i]? = some s → aM c l vs → aM c (l.set i s') vs
 | [], i, vs, h, _ => by simp at h
 | a :: l, 0, vs, h, ⟨v, r, h1, h2, h3⟩ => by
  simp at h
  subst h
  exact ⟨v, r, hs v h1, h2, h3⟩
 | a :: l, i + 1, vs, h, ⟨v, r, h1, h2, h3⟩ => ⟨v, r, h1, jS hs (by simpa using h) h2, h3⟩
theorem W.nameB {P : Program} {lo : Nat} {z : Code} {fr : Fr} {st : St} {Φ : Ex → Fr → St → Prop} {k i : Nat} {l : List SVal} (m : Nat) (hk : st.look k = some (.cells l)) (hi : l[i]? = some .az)
  (h : W P lo z fr ((st.fresh (.row m [] 0 false)).put k (.cells (l.set i (.own st.next 0)))) Φ) : W P lo z fr st Φ := by
 intro ro B D c w a he hr Q hq
 obtain ⟨c', h2, h3, h5, h4⟩ := qX he.rep (he.dom _ (Nat.le_refl _)) he.wf m
 have hne : k ≠ st.next := fun e => by
  have := he.wf.none k (by omega)
  rw [(cm hk).1] at this
  cases this
 have hk' : (st.fresh (.row m [] 0 false)).look k = some (.cells l) := by
  rw [look_eq]
  have h6 := cm hk
  show (if bN k st.ban = true then none else ba ((st.next, aV.row m [] 0 false) :: st.heap) k) = _
  rw [h6.2, bI, if_neg (Ne.symm hne), h6.1]
  rfl
 obtain ⟨h7, h8⟩ := gn (o' := .cells (l.set i (.own st.next 0))) hk' h2 fun lc ho => by
  cases lc with
  | row => exact ho.elim
  | box b =>
   obtain ⟨arr, e, g1, g2, g3⟩ := ho
   exact ⟨arr, e, g1, jS h4 hi g2, g3⟩
 have hsta := (cO st (.row m [] 0 false)).trans (cL (.cells (l.set i (.own st.next 0))) hk')
 have hs : dr lo c st.look w c' ((st.fresh (.row m [] 0 false)).put k (.cells (l.set i (.own st.next 0)))).look w := (h3.trans h8 (Nat.le_succ _) (Nat.le_refl _)).c he.low
 have ht := hsta.c he.low
 refine h ⟨h7, he.wf.sta hsta, fun n hn => ?_, ⟨he.fr.size, fun t x hx => ?_, he.fr.defers⟩, he.mks, he.base, Nat.le_trans he.low hsta.next, by rw [hsta.mark]; exact he.mark⟩ hr fun x fr' st' D' c2 a' w' g1 g2 g3 g4 g5 => hq x fr' st' D' c2 a' w' g1 g2 (hs.trans g3) (ht.trans g4) g5
 ·have hn : st.next + 1 ≤ n := hn
  rw [h5 n (by omega)]
  exact he.dom n (by omega)
 ·obtain ⟨v, e1, e2⟩ := he.fr.get t x hx
  exact ⟨v, e1, Den.le h3.le _ _ e2⟩
theorem a8 {P : Program} {lo : Nat} {z : Code} {fr : Fr} {st : St} {n : Nat} {t : List (Nat × SVal)} {heap : Hp} {next : Nat} {K : Ex → Fr → St → Prop} (hf : fr = ⟨n, t⟩) (hs : st = ⟨heap, next, 0, [], []⟩) (h : dS P lo z ⟨n, t⟩ ⟨heap, next, 0, [], []⟩ K) : dS P lo z fr st K := by
 subst hf hs; exact h
theorem bj {P : Program} {lo : Nat} {z : Code} {n : Nat} {t : List (Nat × SVal)} {heap : Hp} {next : Nat} {K : Ex → Fr → St → Prop} {l : List SVal} (k i m : Nat) (hk : ba heap k = some (.cells l)) (hi : l[i]? = some .az)
  (h : dS P lo z ⟨n, t⟩ ⟨fY ((next, .row m [] 0 false) :: heap) k (.cells (l.set i (.own next 0))), next + 1, 0, [], []⟩ K) : dS P lo z ⟨n, t⟩ ⟨heap, next, 0, [], []⟩ K := by
 obtain ⟨x, fr', st', h1, h2⟩ := h.out
 exact ⟨x, fr', st', fun Φ hΦ => W.nameB (st := ⟨heap, next, 0, [], []⟩) m hk hi (h1 Φ hΦ), h2⟩
theorem nbL_map {α : Type} {g : α → SVal} {m : Nat} (h : ∀ x, nb m (g x) = true) : ∀ l : List α, nbL m (l.map g) = true
 | [] => rfl
 | a :: l => by
  show (nb m (g a) && nbL m (l.map g)) = true
  rw [h a, nbL_map h l]; rfl
theorem nO (m : Nat) (l : List Bool) : nbL m (l.map SVal.bool) = true := nbL_map (fun _ => rfl) l
theorem own_back {c c' : Ctx} (e : c'.ρ = c.ρ) {k s : Nat} {v : Value} (h : Den c' (.own k s) v) : Den c (.own k s) v := by
 obtain ⟨h0, b, st, sz, u, h1, h2⟩ := h
 exact ⟨h0, b, st, sz, u, by rw [← e]; exact h1, h2⟩
theorem W.frzB {P : Program} {lo : Nat} {z : Code} {fr : Fr} {st : St} {Φ : Ex → Fr → St → Prop} {b i k s m : Nat} {l : List SVal} {rows : List (List SVal)} {y : Bool} (hb : st.look b = some (.cells l)) (hi : l[i]? = some (.own k s)) (hk : st.look k = some (.row m rows s y))
  (h : W P lo z fr ((st.put k (.row m rows s true)).put b (.cells (l.set i (.lst false rows)))) Φ) : W P lo z fr st Φ := by
 intro ro B D c w a he hr Q hq
 obtain ⟨c', e1, h2, h3, h4⟩ := lX hk he.rep
 have hne : b ≠ k := fun e => by subst e; rw [hb] at hk; cases hk
 have hb' : (st.put k (.row m rows s true)).look b = some (.cells l) := by
  rw [kF hk, if_neg hne]; exact hb
 obtain ⟨h7, h8⟩ := gn (o' := .cells (l.set i (.lst false rows))) hb' h2 fun lc ho => by
  cases lc with
  | row => exact ho.elim
  | box bb =>
   obtain ⟨arr, e, g1, g2, g3⟩ := ho
   exact ⟨arr, e, g1, jS (fun v hv => h4 v (own_back e1 hv)) hi g2, g3⟩
 have hsta := (cL (.row m rows s true) hk).trans (cL (.cells (l.set i (.lst false rows))) hb')
 have hs : dr lo c st.look w c' ((st.put k (.row m rows s true)).put b (.cells (l.set i (.lst false rows)))).look w := (h3.trans h8 (Nat.le_refl _) (Nat.le_refl _)).c he.low
 have ht := hsta.c he.low
 refine h ⟨h7, he.wf.sta hsta, fun n hn => by rw [e1]; exact he.dom n hn, ⟨he.fr.size, fun t x hx => ?_, he.fr.defers⟩, he.mks, he.base, Nat.le_trans he.low hsta.next, by rw [hsta.mark]; exact he.mark⟩ hr fun x fr' st' D' c2 a' w' g1 g2 g3 g4 g5 => hq x fr' st' D' c2 a' w' g1 g2 (hs.trans g3) (ht.trans g4) g5
 obtain ⟨v, f1, f2⟩ := he.fr.get t x hx
 exact ⟨v, f1, Den.le h3.le _ _ f2⟩
section
variable {P : Program} {lo : Nat} {n : Nat} {t : List (Nat × SVal)} {heap : Hp} {next : Nat} {l : List SVal} {k s m : Nat} {rows : List (List SVal)} {y : Bool}
theorem R.frzB {z : Code} {K : Ex → Fr → St → Prop} (b i : Nat) (hb : ba heap b = some (.cells l)) (hi : l[i]? = some (.own k s)) (hk : ba heap k = some (.row m rows s y))
  (h : R P lo z ⟨n, t⟩ ⟨fY (fY heap k (.row m rows s true)) b (.cells (l.set i (.lst false rows))), next, 0, [], []⟩ K) : R P lo z ⟨n, t⟩ ⟨heap, next, 0, [], []⟩ K := by
 obtain ⟨x, fr', st', h1, h2⟩ := h
 exact ⟨x, fr', st', fun Φ hΦ => W.frzB (st := ⟨heap, next, 0, [], []⟩) hb hi hk (h1 Φ hΦ), h2⟩
theorem loop_frzB {z : Code} {K : Ex → Fr → St → Prop} (b i : Nat) (hb : ba heap b = some (.cells l)) (hi : l[i]? = some (.own k s)) (hk : ba heap k = some (.row m rows s y))
  (h : dS P lo z ⟨n, t⟩ ⟨fY (fY heap k (.row m rows s true)) b (.cells (l.set i (.lst false rows))), next, 0, [], []⟩ K) : dS P lo z ⟨n, t⟩ ⟨heap, next, 0, [], []⟩ K := ⟨R.frzB b i hb hi hk h.out⟩
theorem uQ {ι : Type} {F : ι → Fr} {S : ι → St} {ms : ι → Nat} {j : ι} (b i : Nat) (hb : ba heap b = some (.cells l)) (hi : l[i]? = some (.own k s)) (hk : ba heap k = some (.row m rows s y))
  (h : np P lo F S ms j ⟨n, t⟩ ⟨fY (fY heap k (.row m rows s true)) b (.cells (l.set i (.lst false rows))), next, 0, [], []⟩) : np P lo F S ms j ⟨n, t⟩ ⟨heap, next, 0, [], []⟩ := back_via (fun _ _ => R.frzB b i hb hi hk) h
theorem sy {ι : Type} {F : ι → Fr} {S : ι → St} {ms : ι → Nat} {j : ι} {fr : Fr} {st : St} (hf : fr = ⟨n, t⟩) (hs : st = ⟨heap, next, 0, [], []⟩) (h : np P lo F S ms j ⟨n, t⟩ ⟨heap, next, 0, [], []⟩) : np P lo F S ms j fr st := by
 subst hf hs; exact h
end
class KeyF {κ : Type} (kf : κ → SVal) where
 d : TypeDesc
 ok : ∀ x, eC d (kf x)
 inj : ∀ x y, kf x = kf y → x = y
 low : ∀ m x, nb m (kf x) = true
instance : KeyF SVal.str := ⟨.string, fun _ => trivial, fun _ _ h => by injection h, fun _ _ => rfl⟩
instance : KeyF (SVal.int .i64) := ⟨.int .i64, fun _ => rfl, fun _ _ h => by injection h, fun _ _ => rfl⟩
section
variable {α κ : Type}
abbrev gF (kf : κ → SVal) (g : α → SVal) (m : List (κ × α)) : List (SVal × SVal) := m.map fun p => (kf p.1, g p.2)
def cn [DecidableEq κ] (x : κ) : List (κ × α) → Option α
 | [] => none
 | p :: r => if p.1 = x then some p.2 else cn x r
variable {kf : κ → SVal} [hk : KeyF kf] [DecidableEq κ] {g : α → SVal}
theorem keysOk (g : α → SVal) (m : List (κ × α)) : ∀ p ∈ gF kf g m, eC hk.d p.1 := fun p hp => by
 obtain ⟨q, _, rfl⟩ := List.mem_map.1 hp
 exact hk.ok _
theorem l5 {x : κ} : ∀ {m : List (κ × α)}, cn x m = none → fP (gF kf g m) (kf x) none
 | [], _ => .nil
 | p :: r, h => by
  unfold cn at h
  split at h
  ·cases h
  ·rename_i hne
   exact fP.there (p := (kf p.1, g p.2)) (x := none) (fun e => hne (hk.inj _ _ e)) (l5 h)
theorem l4 {x : κ} {v : α} : ∀ {m : List (κ × α)}, cn x m = some v → ∃ i, fP (gF kf g m) (kf x) (some (i, g v))
 | p :: r, h => by
  unfold cn at h
  split at h
  ·rename_i e
   cases h
   rw [← e]
   exact ⟨0, .here⟩
  ·rename_i hne
   obtain ⟨i, hi⟩ := l4 h
   exact ⟨i + 1, fP.there (p := (kf p.1, g p.2)) (x := some (i, g v)) (fun e => hne (hk.inj _ _ e)) hi⟩
theorem kV {m : List (κ × α)} {x : κ} {Q : Option (Nat × SVal) → Prop} (h1 : cn x m = none → Q none) (h2 : ∀ v i, cn x m = some v → Q (some (i, g v))) : ∃ r, fP (gF kf g m) (kf x) r ∧ Q r := by
 cases h : cn x m with
 | none => exact ⟨none, l5 h, h1 h⟩
 | some v => obtain ⟨i, hi⟩ := l4 (kf := kf) (g := g) h; exact ⟨_, hi, h2 v i h⟩
theorem dP {m : List (κ × α)} {x : κ} {v : α} {Q : Option (Nat × SVal) → Prop} (h : cn x m = some v) (k : ∀ i, Q (some (i, g v))) : ∃ r, fP (gF kf g m) (kf x) r ∧ Q r := by
 obtain ⟨i, hi⟩ := l4 (kf := kf) (g := g) h
 exact ⟨_, hi, k i⟩
theorem z6 {m : List (κ × α)} {x : κ} {v : α} {st : St} {k : Nat} {K : St → Prop} (hf : cn x m = none) (h : fE st k (.map (gF kf g (m ++ [(x, v)]))) K) :
  eC hk.d (kf x) ∧ (∀ p ∈ gF kf g m, eC hk.d p.1) ∧ fP (gF kf g m) (kf x) none ∧ fE st k (.map (gF kf g m ++ [(kf x, g v)])) K := by
 refine ⟨hk.ok x, keysOk g m, l5 hf, ?_⟩
 rw [gF, List.map_append] at h
 exact h
theorem kJ {k : Nat} (h : ∀ x, nb k (g x) = true) (m : List (κ × α)) : nbO k (.map (gF kf g m)) = true := by
 show nbE k _ = true
 induction m with
 | nil => rfl
 | cons p r ih =>
  show (nb k (kf p.1) && nb k (g p.2) && nbE k (gF kf g r)) = true
  rw [hk.low, h, ih]; rfl
end
def bt (n : Int) : List SVal := [.int .i64 n]
def eByte (n : Int) : List SVal := [.int .u8 n]
def cD (b : Bool) : List SVal := [.bool b]
def jR (s : List UInt8) : List SVal := [.str s]
def eN (l : List Int) : List SVal := [.lst false (l.map bt)]
instance : Cl bt := ⟨fun _ => rfl⟩
instance : Cl eByte := ⟨fun _ => rfl⟩
instance : Cl cD := ⟨fun _ => rfl⟩
instance : Cl jR := ⟨fun _ => rfl⟩
instance : Cl eN := ⟨fun l => by simp only [eN, aw, closed, clR bt, Bool.and_self]⟩
def pow10 : List Int := [1, 10, 100, 1000, 10000, 100000, 1000000, 10000000, 100000000, 1000000000, 10000000000, 100000000000, 1000000000000, 10000000000000, 100000000000000, 1000000000000000, 10000000000000000, 100000000000000000, 1000000000000000000, 10000000000000000000]
class jq where
 g : Nat
def aS [jq] : aV := .jl jq.g (pow10.map (SVal.int .u64))
variable [jq]
mutual
theorem dj (σ : Nat → Nat) : ∀ s : SVal, closed s = true → ren σ s = s
 | .bool _, _ => rfl
 | .int _ _, _ => rfl
 | .str _, _ => rfl
 | .nilPtr, _ => rfl
 | .az, _ => rfl
 | .dy, _ => rfl
 | .eE, _ => rfl
 | .nilIface, _ => rfl
 | .ptr _ _, h => by cases h
 | .ec _ _ _ _, h => by cases h
 | .own _ _, h => by cases h
 | .map _, h => by cases h
 | .bA row off, h => by rw [ren, bC σ row h]
 | .lst f rows, h => by rw [ren, jE σ rows h]
 | .func fn x y, h => by
  rw [closed, Bool.and_eq_true, Bool.and_eq_true] at h
  rw [ren, bC σ x h.1.2, bC σ y h.2]
  cases fn <;> first | rfl | (have := h.1.1; simp [cY] at this)
 | .iface t v, h => by rw [ren, dj σ v h]
 | .agg l, h => by rw [ren, bC σ l h]
 | .tup l, h => by rw [ren, bC σ l h]
theorem bC (σ : Nat → Nat) : ∀ l : List SVal, aw l = true → bV σ l = l
 | [], _ => rfl
 | s :: r, h => by
  rw [aw, Bool.and_eq_true] at h
  rw [bV, dj σ s h.1, bC σ r h.2]
theorem jE (σ : Nat → Nat) : ∀ l : List (List SVal), aJ l = true → jh σ l = l
 | [], _ => rfl
 | s :: r, h => by
  rw [aJ, Bool.and_eq_true] at h
  rw [jh, bC σ s h.1, jE σ r h.2]
end
theorem pC (σ : Nat → Nat) : ef σ aS = aS := by
 show aV.jl _ (bV σ _) = _
 rw [bC σ _ (by decide)]
 rfl
theorem gW : plainO aS = true ∧ nbO 1 aS = true := ⟨rfl, rfl⟩
theorem putsT {st : St} (hl : st.look 0 = some aS) (σ : Nat → Nat) : (fD σ [0] [aS] st).look = st.look ∧ (fD σ [0] [aS] st).next = st.next := by
 refine ⟨funext fun n => ?_, rfl⟩
 show (st.put 0 (ef σ aS)).look n = _
 rw [pC, kF hl]
 split
 ·rename_i e; rw [e, hl]
 ·rfl
theorem callT {P : Program} {f : FuncId} {args : List SVal} {s : SVal} (h : sJ P f [aS] args s [aS]) (ha : aw args = true) (hs : closed s = true) {st : St} (hl : st.look 0 = some aS) : fB P f args st s st := by
 have hc := qY h (big := st) (ks := [0]) (σ := fun i => [0].getD i 0) (fun _ => rfl) rfl (by simp) (fun i k o h1 h2 => by
  cases i with
  | zero => simp at h1 h2; subst h1 h2; rw [pC]; exact hl
  | succ i => simp at h1)
 rw [bC _ _ ha, dj _ _ hs] at hc
 obtain ⟨e1, e2⟩ := putsT hl (fun i => [0].getD i 0)
 refine ⟨hc.body, Sta.refl st, fun {c w} hr hwf hfr vs hd => (hc.ok hr hwf (fun k h1 h2 => by rw [e2] at h2; omega) hd).mono fun e w' he => ?_⟩
 obtain ⟨v, h1, c', gd⟩ := he
 exact ⟨v, h1, c', gd.val, by rw [← e1]; exact gd.rep, by have := gd.step; rw [e1, e2] at this; exact this⟩
section
variable {P : Program} {E : Env}
def aY (P : Program) (f : FuncId) (args : List SVal) (Ψ : SVal → Prop) : Prop := aw args = true ∧ sK P f [aS] args fun s o => closed s = true ∧ o = [aS] ∧ Ψ s
noncomputable def xT (P : Program) (E : Env) (fn : Func) (args : List SVal) (Ψ : SVal → List aV → Prop) : Prop := match fn with
 | { ntmps := n, results := rs, body := some b, .. } => yes (Nat.ble args.length n) <| got (sB 0 args) fun t => xC P E 1 b ⟨n, t⟩ ⟨[(0, aS)], 1, 0, [], []⟩ (finM E 1 rs.toList Ψ)
 | _ => False
theorem hasT_of (hE : a7 P E) {f : FuncId} {fn : Func} (hf : E.funcs.get f = some fn) {args : List SVal} {Ψ : SVal → Prop} (hc : aw args = true) (h : xT P E fn args fun s o => closed s = true ∧ o = [aS] ∧ Ψ s) : aY P f args Ψ :=
 ⟨hc, pN P E hE hf ⟨gW.1, gW.2, trivial⟩ (aW _ _ hc) h⟩
theorem sem_callF {o : Oper} {ev : Evl} {st st1 : St} {d : Go.Call} {fop : Operand} {f : FuncId} {first cap ss args : List SVal} {s : SVal} (ho : o.op = .call d) (hc : d.callee = .value fop) (hf : ev fop = some (.func (.func f) first cap)) (hev : evs ev d.args.toList = some ss) (ha : FzL st (first ++ (ss ++ cap)) args st1) (h : fB P f args st1 s st1) : bg P o ev st s st1 :=
 ⟨by simp [ho], ha.sta.1, fun {c w} hr hwf hfr {e} he a next Q hn => by
  obtain ⟨vs, h1, h2⟩ := gh (P := P) ho hc hf hev he
  obtain ⟨fn, body, g1, g2, g3⟩ := h.body
  rw [h2]
  obtain ⟨c1, e1, r1, s1, d1⟩ := ha.ok hr h1
  refine dR g1 g2 g3 (h.ok r1 (hwf.sta ha.sta.1) (fun k g1 g2 => by omega) d1) o a next Q fun v w' ⟨c2, gd⟩ => ?_
  exact hn c2 v w' ⟨gd.val, gd.rep, s1.trans gd.step ha.sta.1.next (Nat.le_refl _)⟩⟩
theorem gi {f : FuncId} {args args' : List SVal} {v : SVal} {st : St} {K : SVal → St → Prop} (h : aY P f args' fun s => s = v) (ha : cg args = args') (hl : st.look 0 = some aS) (k : K v st) : dI P f args st K := by
 obtain ⟨hcl, s, o, h1, h2, rfl, rfl⟩ := h
 have hc := callT h1 hcl h2 hl
 refine ⟨_, _, fun _ _ _ _ _ _ _ ho hc' hf hev he => hZ ho hc' hf hev ?_, k⟩
 rw [he]
 refine ⟨hc.body, hc.sta, fun hr hwf hfree vs hd => hc.ok hr hwf hfree ?_⟩
 rw [← ha]
 exact eY _ _ hd
theorem bq {f : FuncId} {args args' : List SVal} {v : SVal} {st : St} {K : SVal → St → Prop} (h : aY P f args' fun s => s = v) (k : fzN args st fun l st' => l = args' ∧ st'.look 0 = some aS ∧ K v st') : dI P f args st K := by
 obtain ⟨hcl, s, o, h1, h2, rfl, rfl⟩ := h
 obtain ⟨l', st', g1, rfl, g2, g3⟩ := gw k
 have hc := callT h1 hcl h2 g2
 exact ⟨_, _, fun _ _ _ _ _ _ _ ho hc' hf hev he => sem_callF ho hc' hf hev (by rw [he]; exact g1) hc, g3⟩
theorem ye {l : List SVal} {heap : Hp} {next : Nat} {K : List SVal → List aV → Prop} (hs : ba heap 0 = some aS) (hx : 1 ≤ next) (hc : aw l = true) (k : K l [aS]) : hO 1 l ⟨heap, next, 0, [], []⟩ K :=
 cU [aS] rfl ⟨hs, trivial⟩ ⟨gW.1, gW.2, trivial⟩ (aW _ _ hc) hx k
end
theorem ban_lt {n : Nat} : ∀ {ban : List (Nat × Nat)}, ban.all (fun p => Nat.ble p.2 n) = true → ∀ k, bN k ban = true → k < n
 | [], _, k, h => by cases h
 | p :: r, h, k, hk => by
  rw [List.all_cons, Bool.and_eq_true] at h
  have hk : @Bool.rec (fun _ => Bool) (bN k r) (@Bool.rec (fun _ => Bool) (bN k r) true (Nat.ble (Nat.succ k) p.2)) (Nat.ble p.1 k) = true := hk
  cases h1 : Nat.ble p.1 k with
  | false => rw [h1] at hk; exact ban_lt h.2 k hk
  | true =>
   rw [h1] at hk
   cases h2 : Nat.ble (Nat.succ k) p.2 with
   | false => rw [h2] at hk; exact ban_lt h.2 k hk
   | true => exact Nat.lt_of_lt_of_le (cr h2) (cr h.1)
def xq (h h1 : Hp) (log : List Nat) : Nat → Prop
 | 0 => True
 | k + 1 => (ba h1 k = ba h k ∨ k ∈ log) ∧ xq h h1 log k
theorem xp {h h1 : Hp} {log : List Nat} : ∀ {n : Nat}, xq h h1 log n → ∀ k, k < n → k ∉ log → ba h1 k = ba h k
 | 0, _, k, hk, _ => by omega
 | n + 1, ⟨g1, g2⟩, k, hk, hl => by
  by_cases e : k = n
  ·subst e; exact g1.elim id fun h => (hl h).elim
  ·exact xp g2 k (by omega) hl
noncomputable def gV (mark : Nat) (ban : List (Nat × Nat)) : List Nat → Bool
 | [] => true
 | n :: r => match bN n ban with
  | true => false
  | false => match Nat.ble (Nat.succ n) mark with
   | true => gV mark ban r
   | false => false
theorem visB_ok {mark : Nat} {ban : List (Nat × Nat)} : ∀ {l : List Nat}, gV mark ban l = true → ∀ n ∈ l, bN n ban = false ∧ n < mark
 | [], _, n, h => by cases h
 | a :: r, h, n, hn => by
  unfold gV at h
  split at h
  ·cases h
  ·rename_i h1
   split at h
   ·rename_i h2
    rcases List.mem_cons.1 hn with rfl | hn
    ·exact ⟨h1, cr h2⟩
    ·exact visB_ok h n hn
   ·cases h
structure EndD (heap0 : Hp) (next mark : Nat) (ban : List (Nat × Nat)) (ss : List SVal) (st : St) (K : List SVal → St → Prop) : Prop where
 out : ∃ heap2 next2 log2, iF next ⟨heap2, next2, mark, log2, ban⟩ st ∧ jy next2 heap2 heap2 ∧ xq heap0 heap2 log2 next ∧ gV mark ban log2 = true ∧ nbL next2 ss = true ∧ K ss ⟨heap2, next2, mark, log2, ban⟩
theorem end_allD {heap0 : Hp} {next mark : Nat} {log : List Nat} {ban : List (Nat × Nat)} {ss : List SVal} {heap : Hp} {next1 : Nat} {K : List SVal → St → Prop} (hn : next ≤ next1) (hh : jy next1 heap heap) (hs : xq heap0 heap log next) (hb : ban.all (fun p => Nat.ble p.2 next1) = true) (hl : gV mark ban log = true) (hv : nbL next1 ss = true) (k : K ss ⟨heap, next1, mark, log, ban⟩) : EndD heap0 next mark ban ss ⟨heap, next1, mark, log, ban⟩ K :=
 ⟨heap, next1, log, ⟨Nat.le_refl _, hn, rfl, rfl, rfl, ban_lt hb, eo hh, fun _ _ => rfl⟩, hh, hs, hl, hv, k⟩
section
variable {P : Program} {E : Env}
noncomputable def finD (E : Env) (heap0 : Hp) (next mark : Nat) (ban : List (Nat × Nat)) (rs : List ResultVar) (K : SVal → St → Prop) (x : Ex) (fr : Fr) (st : St) : Prop := match x with
 | .exit _ => False
 | _ => resK E fr st rs fun ss => EndD heap0 next mark ban ss st fun ss st => match ss with
  | [v] => K v st
  | vs => K (.tup vs) st
theorem finD_ok {heap0 : Hp} {next mark : Nat} {ban : List (Nat × Nat)} {rs : List ResultVar} {K : SVal → St → Prop} {x : Ex} {fr : Fr} {st : St} (h : finD E heap0 next mark ban rs K x fr st) : oW x = true ∧ ∃ ss, mb E fr st rs ss ∧ EndD heap0 next mark ban ss st fun ss st => K (lI ss) st := by
 unfold finD at h
 split at h
 ·exact h.elim
 ·rename_i hx
  obtain ⟨ss, h1, ⟨a, b, c, g1, g2, g0, gv, g3, g4⟩⟩ := kA E h
  refine ⟨?_, ss, h1, ⟨a, b, c, g1, g2, g0, gv, g3, ?_⟩⟩
  ·cases x with
   | exit j => exact (hx j rfl).elim
   | normal => rfl
   | ret => rfl
  ·split at g4
   ·exact g4
   ·rename_i hv
    match ss, hv, g4 with
    | [], _, g => exact g
    | [v], hv, _ => exact (hv v rfl).elim
    | a :: b :: r, _, g => exact g
noncomputable def xD (P : Program) (E : Env) (fn : Func) (args : List SVal) (heap : Hp) (next mark : Nat) (ban : List (Nat × Nat)) (K : SVal → St → Prop) : Prop := match fn with
 | { ntmps := n, results := rs, body := some b, .. } => yes (Nat.ble args.length n) <| got (sB 0 args) fun t => xC P E next b ⟨n, t⟩ ⟨heap, next, mark, [], ban⟩ (finD E heap next mark ban rs.toList K)
 | _ => False
theorem call_inD (hE : a7 P E) {f : FuncId} (fn : Func) (hf : E.funcs.get f = some fn) {args : List SVal} {heap : Hp} {next mark : Nat} {ban : List (Nat × Nat)} {K : SVal → St → Prop} (hh : jy next heap heap) (ha : nbL next args = true) (h : xD P E fn args heap next mark ban K) : dI P f args ⟨heap, next, mark, [], ban⟩ K := by
 unfold xD at h
 split at h
 ·obtain ⟨h1, g⟩ := bG h
  obtain ⟨t, h2, g⟩ := aE g
  cases nj h2
  obtain ⟨x, fr', st', h3, h4⟩ := gG P E next hE g
  obtain ⟨h5, ss, h6, ⟨heap2, next2, log2, k1, k2, k0, kv, k3, k4⟩⟩ := finD_ok h4
  have hsta : Sta ⟨heap, next, mark, [], ban⟩ ⟨heap2, next2, mark, log2, ban⟩ := {
   ban := rfl
   mark := rfl
   next := k1.low
   log := fun _ h => (by cases h)
   same := fun k h1 _ h3 => xp k0 k h1 h3
   wf := fun _ k hk => by
    have hk : next2 ≤ k := hk
    show ba heap2 k = none
    cases hx : ba heap2 k with
    | none => rfl
    | some o => have := (eo k2 k o hx).2.2; omega
   vis := fun n hn => .inr (visB_ok kv n hn) }
  refine ⟨_, _, fun _ _ _ _ _ _ _ ho hc hf' hev he => hZ ho hc hf' hev ?_, k4⟩
  rw [he]
  refine wu hE hf rfl hsta (fun k o hk => (eo hh k o hk).2.1) ha ?_
  unfold entry
  rw [show args.length + (_ - args.length) = _ from Nat.add_sub_of_le (Nat.le_of_ble_eq_true h1)]
  exact h3 _ ⟨h5, ss, h6, ss, st', mS ss, rfl, k1, mD k3⟩
 ·exact h.elim
end
end Sv
namespace Sv
open Go Go.RowKit
variable [jq] {P : Program} {E : Env}
def bm : aV → Bool
 | .cells l => aw l
 | .row _ rows _ _ => aJ rows
 | .jl _ l => aw l
 | _ => false
theorem eu (σ : Nat → Nat) : ∀ {o : aV}, bm o = true → ef σ o = o
 | .cells l, h => congrArg aV.cells (bC σ l h)
 | .row m rows s y, h => congrArg (fun r => aV.row m r s y) (jE σ rows h)
 | .jl g l, h => congrArg (aV.jl g) (bC σ l h)
 | .still l, h => by cases h
 | .map l, h => by cases h
 | .loop r, h => by cases h
theorem lr : ∀ {o : aV}, bm o = true → plainO o = true
 | .cells _, _ => rfl
 | .row _ _ _ _, _ => rfl
 | .jl _ _, _ => rfl
 | .still l, h => by cases h
 | .map l, h => by cases h
 | .loop r, h => by cases h
theorem qW (m : Nat) : ∀ {o : aV}, bm o = true → nbO m o = true
 | .cells l, h => aW m l h
 | .row _ rows _ _, h => fh m rows h
 | .jl _ l, h => aW m l h
 | .still l, h => by cases h
 | .map l, h => by cases h
 | .loop r, h => by cases h
abbrev sig (ks : List Nat) : Nat → Nat := fun i => (0 :: ks).getD i 0
theorem kK {f : FuncId} {objs objs' : List aV} {args : List SVal} {s : SVal} (h : sJ P f (aS :: objs) args s (aS :: objs')) {big : St} {ks : List Nat} (hlen : ks.length = objs.length) (hnd : (0 :: ks).Nodup) (h0 : big.look 0 = some aS)
  (hbig : ∀ (i k : Nat) (o : aV), ks[i]? = some k → objs[i]? = some o → big.look k = some (ef (sig ks) o)) : fB P f (bV (sig ks) args) big (ren (sig ks) s) (fD (sig ks) ks objs' big) := by
 have hb : ∀ (i k : Nat) (o : aV), (0 :: ks)[i]? = some k → (aS :: objs)[i]? = some o → big.look k = some (ef (sig ks) o) := fun i k o h1 h2 => by
  cases i with
  | zero => simp at h1 h2; subst h1 h2; rw [pC]; exact h0
  | succ i => exact hbig i k o (by simpa using h1) (by simpa using h2)
 have hc := qY h (big := big) (ks := 0 :: ks) (σ := sig ks) (fun _ => rfl) (congrArg (· + 1) hlen) hnd hb
 have hl' : objs'.length = objs.length := by have := h.len; simpa using this
 have hsome : ∀ k ∈ ks, ∃ o, big.look k = some o := fun k hk => by
  obtain ⟨i, hi, e⟩ := vJ hk
  exact ⟨_, hbig i k _ e (List.getElem?_eq_getElem (hlen ▸ hi))⟩
 rw [List.nodup_cons] at hnd
 obtain ⟨p1, p2, p3, p4⟩ := kE (σ := sig ks) (ks := ks) (os := objs') (st := big) (hlen.trans hl'.symm) hnd.2 hsome
 have hlk0 := kF (o := ef (sig ks) aS) h0
 have hsome' : ∀ k ∈ ks, ∃ o, (big.put 0 (ef (sig ks) aS)).look k = some o := fun k hk => by
  rw [hlk0]
  split
  ·exact ⟨_, rfl⟩
  ·exact hsome k hk
 obtain ⟨q1, q2, q3, q4⟩ := kE (σ := sig ks) (ks := ks) (os := objs') (st := big.put 0 (ef (sig ks) aS)) (hlen.trans hl'.symm) hnd.2 hsome'
 have e1 : (fD (sig ks) (0 :: ks) (aS :: objs') big).look = (fD (sig ks) ks objs' big).look := by
  funext n
  show (fD (sig ks) ks objs' (big.put 0 (ef (sig ks) aS))).look n = _
  by_cases hn : n ∈ ks
  ·obtain ⟨i, hi, e⟩ := vJ hn
   have hi' : i < objs'.length := by omega
   rw [q4 i n _ e (List.getElem?_eq_getElem hi'), p4 i n _ e (List.getElem?_eq_getElem hi')]
  ·rw [q3 n hn, p3 n hn, hlk0]
   split
   ·rename_i e; rw [e, h0, pC]
   ·rfl
 have e2 : (fD (sig ks) (0 :: ks) (aS :: objs') big).next = (fD (sig ks) ks objs' big).next := by
  show (fD (sig ks) ks objs' (big.put 0 (ef (sig ks) aS))).next = _
  rw [q2, p2]
  rfl
 refine ⟨hc.body, p1, fun {c w} hr hwf hfr vs hd => (hc.ok hr hwf (by rw [e2]; exact hfr) hd).mono fun e w' he => ?_⟩
 obtain ⟨v, h1, c', gd⟩ := he
 exact ⟨v, h1, c', gd.val, by rw [← e1]; exact gd.rep, by have := gd.step; rw [e1, e2] at this; exact this⟩
def jr (P : Program) (f : FuncId) (o : aV) (args : List SVal) (Ψ : SVal → aV → Prop) : Prop := bm o = true ∧ sK P f [aS, o] args fun s os => closed s = true ∧ ∃ o', os = [aS, o'] ∧ bm o' = true ∧ Ψ s o'
theorem hasO_of (hE : a7 P E) {f : FuncId} {fn : Func} (hf : E.funcs.get f = some fn) {o : aV} {args : List SVal} {Ψ : SVal → aV → Prop} (ho : bm o = true) (hn : nbL 2 args = true) (h : xM P E fn [aS, o] args fun s os => closed s = true ∧ ∃ o', os = [aS, o'] ∧ bm o' = true ∧ Ψ s o') : jr P f o args Ψ :=
 ⟨ho, pN P E hE hf ⟨gW.1, rfl, lr ho, qW _ ho, trivial⟩ hn h⟩
theorem cG {f : FuncId} {o o1 : aV} {args args' : List SVal} {v : SVal} {st : St} {K : SVal → St → Prop} (n : Nat) (h : jr P f o args' fun s o' => s = v ∧ o' = o1) (ha : cg args = bV (sig [n]) args') (hn : Nat.ble 1 n = true) (h0 : st.look 0 = some aS) (hl : st.look n = some o) (k : fE st n o1 (K v)) : dI P f args st K := by
 obtain ⟨ho, s, os, h1, h2, o', rfl, h3, rfl, rfl⟩ := h
 have hnd : (0 :: [n]).Nodup := by
  have := Nat.le_of_ble_eq_true hn
  simp; omega
 have hc := kK (objs := [o]) (objs' := [o']) h1 (big := st) (ks := [n]) rfl hnd h0 (fun i k o1 e1 e2 => by
  cases i with
  | zero => simp at e1 e2; subst e1 e2; rw [eu _ ho]; exact hl
  | succ i => simp at e1)
 rw [dj _ _ h2, show fD (sig [n]) [n] [o'] st = st.put n o' by show st.put n (ef _ o') = _; rw [eu _ h3]] at hc
 refine ⟨_, _, fun _ _ _ _ _ _ _ ho hc' hf hev he => hZ ho hc' hf hev ?_, cM k⟩
 rw [he]
 refine ⟨hc.body, hc.sta, fun hr hwf hfree vs hd => hc.ok hr hwf hfree ?_⟩
 rw [← ha]
 exact eY _ _ hd
theorem mut_endO {l : List SVal} {heap : Hp} {next : Nat} {o' : aV} {K : List SVal → List aV → Prop} (h0 : ba heap 0 = some aS) (h1 : ba heap 1 = some o') (hx : 2 ≤ next) (hc : aw l = true) (ho : bm o' = true) (k : K l [aS, o']) : hO 2 l ⟨heap, next, 0, [], []⟩ K :=
 cU [aS, o'] rfl ⟨h0, h1, trivial⟩ ⟨gW.1, rfl, lr ho, qW _ ho, trivial⟩ (aW _ _ hc) hx k
def jk (m : Nat) (rest : List SVal) (rows : List (List SVal)) (s : Nat) : List aV := [.cells (.own 2 s :: rest), .row m rows s false]
def pg (P : Program) (f : FuncId) (m : Nat) (rest : List SVal) (rows : List (List SVal)) (args : List SVal) (Ψ : SVal → List (List SVal) → Prop) : Prop := aw rest = true ∧ aJ rows = true ∧ ∀ t, sK P f (aS :: jk m rest rows t) args fun s os => closed s = true ∧ ∃ rows' t', os = aS :: jk m rest rows' t' ∧ aJ rows' = true ∧ Ψ s rows'
theorem hasRw_of (hE : a7 P E) {f : FuncId} {fn : Func} (hf : E.funcs.get f = some fn) {m : Nat} {rest : List SVal} {rows : List (List SVal)} {args : List SVal} {Ψ : SVal → List (List SVal) → Prop} (h1 : aw rest = true) (h2 : aJ rows = true) (hn : nbL 3 args = true)
  (h : ∀ t, xM P E fn [aS, .cells (.own 2 t :: rest), .row m rows t false] args fun s os => closed s = true ∧ ∃ rows' t', os = aS :: jk m rest rows' t' ∧ aJ rows' = true ∧ Ψ s rows') : pg P f m rest rows args Ψ :=
 ⟨h1, h2, fun t => pN P E hE hf ⟨gW.1, rfl, rfl, by show nbL 3 (.own 2 t :: rest) = true; rw [nbL, aW _ _ h1]; rfl, rfl, fh _ _ h2, trivial⟩ hn (h t)⟩
theorem aX {f : FuncId} {m : Nat} {rest : List SVal} {rows rows1 : List (List SVal)} {args args' : List SVal} {v : SVal} {st : St} {K : SVal → St → Prop} (n k t : Nat) (h : pg P f m rest rows args' fun s r => s = v ∧ r = rows1) (ha : cg args = bV (sig [n, k]) args') (hn : (Nat.ble 1 n && Nat.ble 1 k && !(Nat.beq n k)) = true) (h0 : st.look 0 = some aS)
  (hl : st.look n = some (.cells (.own k t :: rest))) (hl2 : st.look k = some (.row m rows t false)) (kk : ∀ t', fE st n (.cells (.own k t' :: rest)) fun st => fE st k (.row m rows1 t' false) (K v)) : dI P f args st K := by
 obtain ⟨g1, g2, h⟩ := h
 obtain ⟨s, os, h1, h2, r, t', rfl, h3, rfl, rfl⟩ := h t
 rw [Bool.and_eq_true, Bool.and_eq_true] at hn
 have hnd : (0 :: [n, k]).Nodup := by
  have a1 := Nat.le_of_ble_eq_true hn.1.1
  have a2 := Nat.le_of_ble_eq_true hn.1.2
  have a3 : n ≠ k := fun e => by subst e; have := hn.2; simp at this
  simp; omega
 have hren : ∀ u r, ef (sig [n, k]) (.cells (.own 2 u :: rest)) = .cells (.own k u :: rest) ∧ (aJ r = true → ef (sig [n, k]) (.row m r u false) = .row m r u false) := fun u r =>
  ⟨by show aV.cells (ren _ (.own 2 u) :: bV _ rest) = _; rw [bC _ _ g1]; rfl, fun hr => eu _ hr⟩
 have hc := kK (objs := jk m rest rows t) (objs' := jk m rest r t') h1 (big := st) (ks := [n, k]) rfl hnd h0 (fun i k' o1 e1 e2 => by
  cases i with
  | zero => simp [jk] at e1 e2; subst e1 e2; rw [(hren t rows).1]; exact hl
  | succ i =>
   cases i with
   | zero => simp [jk] at e1 e2; subst e1 e2; rw [(hren t rows).2 g2]; exact hl2
   | succ i => simp at e1)
 rw [dj _ _ h2, show fD (sig [n, k]) [n, k] (jk m rest r t') st = (st.put n (.cells (.own k t' :: rest))).put k (.row m r t' false) by
  show (st.put n (ef _ _)).put k (ef _ _) = _
  rw [(hren t' r).1, (hren t' r).2 h3]] at hc
 refine ⟨_, _, fun _ _ _ _ _ _ _ ho hc' hf hev he => hZ ho hc' hf hev ?_, cM (cM (kk t'))⟩
 rw [he]
 refine ⟨hc.body, hc.sta, fun hr hwf hfree vs hd => hc.ok hr hwf hfree ?_⟩
 rw [← ha]
 exact eY _ _ hd
theorem yf {l : List SVal} {heap : Hp} {next t m : Nat} {rest : List SVal} {rows : List (List SVal)} {K : List SVal → List aV → Prop} (h0 : ba heap 0 = some aS) (h1 : ba heap 1 = some (.cells (.own 2 t :: rest))) (h2 : ba heap 2 = some (.row m rows t false)) (hx : 3 ≤ next) (hc : aw l = true) (hr : aw rest = true) (ho : aJ rows = true) (k : K l (aS :: jk m rest rows t)) : hO 3 l ⟨heap, next, 0, [], []⟩ K :=
 cU (aS :: jk m rest rows t) rfl ⟨h0, h1, h2, trivial⟩ ⟨gW.1, rfl, rfl, by show nbL 3 (.own 2 t :: rest) = true; rw [nbL, aW _ _ hr]; rfl, rfl, fh _ _ ho, trivial⟩ (aW _ _ hc) hx k
end Sv
namespace Sv
open Go Go.RowKit
inductive Va : Type
 | mk (v d : Vlu Va) : Va
def Va.v : Va → Vlu Va
 | .mk v _ => v
def Va.d : Va → Vlu Va
 | .mk _ d => d
mutual
def eVa : Va → List SVal
 | .mk v d => cVlu v ++ cVlu d
def cVlu : Vlu Va → List SVal
 | ⟨a, sc, ls, ss⟩ => [.bool a, .bool sc.null, .bool sc.fls, .bool sc.tru, aQ sc.ints, aQ sc.bK, aC sc.strs, .lst false (ld ls), .lst false (k9 ss)]
def ld : List (aT Va) → List (List SVal)
 | [] => []
 | c :: r => sq c :: ld r
def sq : aT Va → List SVal
 | ⟨i, r⟩ => [.lst false (cVas i), .lst false (cVas r)]
def cVas : List Va → List (List SVal)
 | [] => []
 | x :: r => eVa x :: cVas r
def k9 : List (aI Va) → List (List SVal)
 | [] => []
 | c :: r => sk c :: k9 r
def sk : aI Va → List SVal
 | ⟨f, k⟩ => [.lst false (uL f), .lst false (uN k)]
def uL : List (Fld Va) → List (List SVal)
 | [] => []
 | f :: r => cFld f :: uL r
def cFld : Fld Va → List SVal
 | ⟨l, p, x⟩ => .str l :: .int .i64 p :: eVa x
def uN : List (Cls Va) → List (List SVal)
 | [] => []
 | k :: r => cCls k :: uN r
def cCls : Cls Va → List SVal
 | ⟨s, x⟩ => aC s :: eVa x
end
theorem wx : ∀ l : List Va, cVas l = l.map eVa
 | [] => rfl
 | x :: r => by rw [cVas, wx r]; rfl
theorem cLCase_eq : ∀ c : aT Va, sq c = aO eVa c
 | ⟨i, r⟩ => by rw [sq, wx, wx]; rfl
theorem so : ∀ l : List (aT Va), ld l = l.map (aO eVa)
 | [] => rfl
 | x :: r => by rw [ld, so r, cLCase_eq]; rfl
theorem cFld_eq : ∀ c : Fld Va, cFld c = cC eVa c
 | ⟨l, p, x⟩ => by rw [cFld]; rfl
theorem zp : ∀ l : List (Fld Va), uL l = l.map (cC eVa)
 | [] => rfl
 | x :: r => by rw [uL, zp r, cFld_eq]; rfl
theorem cCls_eq : ∀ c : Cls Va, cCls c = cQ eVa c
 | ⟨l, x⟩ => by rw [cCls]; rfl
theorem zr : ∀ l : List (Cls Va), uN l = l.map (cQ eVa)
 | [] => rfl
 | x :: r => by rw [uN, zr r, cCls_eq]; rfl
theorem cSCase_eq : ∀ c : aI Va, sk c = aF eVa c
 | ⟨f, k⟩ => by rw [sk, zp, zr]; rfl
theorem sj : ∀ l : List (aI Va), k9 l = l.map (aF eVa)
 | [] => rfl
 | x :: r => by rw [k9, sj r, cSCase_eq]; rfl
theorem k8 : ∀ v : Vlu Va, cVlu v = bM eVa v
 | ⟨a, sc, ls, ss⟩ => by rw [cVlu, so, sj]; rfl
def uVa (x : Va) : List SVal := [.bool x.v.any, .bool x.v.sc.null, .bool x.v.sc.fls, .bool x.v.sc.tru, aQ x.v.sc.ints, aQ x.v.sc.bK, aC x.v.sc.strs, .lst false (x.v.lists.map (aO eVa)), .lst false (x.v.structs.map (aF eVa)),
 .bool x.d.any, .bool x.d.sc.null, .bool x.d.sc.fls, .bool x.d.sc.tru, aQ x.d.sc.ints, aQ x.d.sc.bK, aC x.d.sc.strs, .lst false (x.d.lists.map (aO eVa)), .lst false (x.d.structs.map (aF eVa))]
theorem bX : ∀ x : Va, eVa x = uVa x
 | .mk v d => by rw [eVa, k8, k8]; rfl
abbrev jw (f : Fld Va) : List SVal := .str f.label :: .int .i64 f.fe :: uVa f.val
theorem cq (f : Fld Va) : cC eVa f = jw f := by rw [cC, bX]
abbrev ep (k : Cls Va) : List SVal := aC k.set :: uVa k.val
theorem bY (k : Cls Va) : cQ eVa k = ep k := by rw [cQ, bX]
mutual
theorem cl_va : ∀ x : Va, aw (eVa x) = true
 | .mk v d => by
  have h1 := cl_vlu v
  have h2 := cl_vlu d
  rw [eVa, k8] at *
  rw [k8] at *
  show aw (bM eVa v ++ bM eVa d) = true
  simp only [bM, aw, Bool.and_eq_true, List.cons_append, List.nil_append] at h1 h2 ⊢
  simp only [h1, h2, and_self]
theorem cl_vlu : ∀ v : Vlu Va, aw (cVlu v) = true
 | ⟨a, sc, ls, ss⟩ => by rw [cVlu]; simp only [aw, closed, bB, bR, cl_lcs ls, cl_scs ss, Bool.and_self]
theorem cl_lcs : ∀ l : List (aT Va), aJ (ld l) = true
 | [] => rfl
 | c :: r => by rw [ld, aJ, cl_lc c, cl_lcs r]; rfl
theorem cl_lc : ∀ c : aT Va, aw (sq c) = true
 | ⟨i, r⟩ => by rw [sq]; simp only [aw, closed, cl_vas i, cl_vas r, Bool.and_self]
theorem cl_vas : ∀ l : List Va, aJ (cVas l) = true
 | [] => rfl
 | x :: r => by rw [cVas, aJ, cl_va x, cl_vas r]; rfl
theorem cl_scs : ∀ l : List (aI Va), aJ (k9 l) = true
 | [] => rfl
 | c :: r => by rw [k9, aJ, cl_sc c, cl_scs r]; rfl
theorem cl_sc : ∀ c : aI Va, aw (sk c) = true
 | ⟨f, k⟩ => by rw [sk]; simp only [aw, closed, cl_flds f, cl_clss k, Bool.and_self]
theorem cl_flds : ∀ l : List (Fld Va), aJ (uL l) = true
 | [] => rfl
 | f :: r => by rw [uL, aJ, cl_fld f, cl_flds r]; rfl
theorem cl_fld : ∀ f : Fld Va, aw (cFld f) = true
 | ⟨l, p, x⟩ => by rw [cFld]; simp only [aw, closed, cl_va x, Bool.and_self]
theorem cl_clss : ∀ l : List (Cls Va), aJ (uN l) = true
 | [] => rfl
 | k :: r => by rw [uN, aJ, cl_cls k, cl_clss r]; rfl
theorem cl_cls : ∀ k : Cls Va, aw (cCls k) = true
 | ⟨s, x⟩ => by rw [cCls]; simp only [aw, bR, cl_va x, Bool.and_self]
end
instance : Cl eVa := ⟨cl_va⟩
section
variable {α : Type} {f : α → List SVal} {l : List α}
theorem bo {j : Nat} {x : α} {sz : Nat} {row : List SVal} {K : List SVal → Prop} (u : f x = row) (h : l[j]? = some x) (hl : row.length = sz) (k : K row) : AtR (l.map f) (j : Int) sz K := by
 subst u; exact a6 h hl k
theorem bU {n : Int} {j : Nat} {x : α} {sz : Nat} {row : List SVal} {K : List SVal → Prop} (u : f x = row) (en : n = (j : Int)) (h : l[j]? = some x) (hl : row.length = sz) (k : K row) : AtR (l.map f) n sz K := by
 subst u; exact bf en h hl k
theorem mu {j : Nat} {x : α} {row : List SVal} {K : List SVal → Prop} (u : f x = row) (h : l[j]? = some x) (k : K row) : RowR (l.map f) j K := by
 subst u; exact bw h k
end
structure Mem (D : Type) where
 label : List UInt8
 data : D
structure dH (D : Type) where
 kind : Int
 num : Int
 str : List UInt8
 items : List D
 members : List (Mem D)
section
variable {D : Type} (e : D → List SVal)
def jn (m : Mem D) : List SVal := .str m.label :: e m.data
def fR (d : dH D) : List SVal := [.int .i64 d.kind, .int .i64 d.num, .str d.str, .lst false (d.items.map e), .lst false (d.members.map (jn e))]
variable {e} [h : Cl e]
instance : Cl (jn e) := ⟨fun f => by simp only [jn, aw, closed, cl e, Bool.and_self]⟩
instance : Cl (fR e) := ⟨fun f => by simp only [fR, aw, closed, clR e, clR (jn e), Bool.and_self]⟩
end
inductive Dat : Type
 | mk (d : dH Dat) : Dat
def Dat.c : Dat → dH Dat
 | .mk d => d
mutual
def dk : Dat → List SVal
 | .mk ⟨k, n, s, i, m⟩ => [.int .i64 k, .int .i64 n, .str s, .lst false (uM i), .lst false (uK m)]
def uM : List Dat → List (List SVal)
 | [] => []
 | x :: r => dk x :: uM r
def uK : List (Mem Dat) → List (List SVal)
 | [] => []
 | f :: r => cMem f :: uK r
def cMem : Mem Dat → List SVal
 | ⟨l, x⟩ => .str l :: dk x
end
theorem zq : ∀ l : List Dat, uM l = l.map dk
 | [] => rfl
 | x :: r => by rw [uM, zq r]; rfl
theorem cMem_eq : ∀ c : Mem Dat, cMem c = jn dk c
 | ⟨l, x⟩ => by rw [cMem]; rfl
theorem zo : ∀ l : List (Mem Dat), uK l = l.map (jn dk)
 | [] => rfl
 | x :: r => by rw [uK, zo r, cMem_eq]; rfl
abbrev dw (x : Dat) : List SVal := fR dk x.c
theorem dV : ∀ x : Dat, dk x = dw x
 | .mk ⟨k, n, s, i, m⟩ => by rw [dk, zq, zo]; rfl
abbrev uMem (m : Mem Dat) : List SVal := .str m.label :: dw m.data
theorem bQ (f : Mem Dat) : jn dk f = uMem f := by rw [jn, dV]
mutual
theorem cl_dat : ∀ x : Dat, aw (dk x) = true
 | .mk ⟨k, n, s, i, m⟩ => by rw [dk]; simp only [aw, closed, cl_dats i, cl_mems m, Bool.and_self]
theorem cl_dats : ∀ l : List Dat, aJ (uM l) = true
 | [] => rfl
 | x :: r => by rw [uM, aJ, cl_dat x, cl_dats r]; rfl
theorem cl_mems : ∀ l : List (Mem Dat), aJ (uK l) = true
 | [] => rfl
 | k :: r => by rw [uK, aJ, cl_mem k, cl_mems r]; rfl
theorem cl_mem : ∀ k : Mem Dat, aw (cMem k) = true
 | ⟨s, x⟩ => by rw [cMem]; simp only [aw, closed, cl_dat x, Bool.and_self]
end
instance : Cl dk := ⟨cl_dat⟩
instance : Cl dw := ⟨fun x => cl (fR dk) x.c⟩
instance : Cl uMem := ⟨fun x => by simp only [uMem, aw, closed, cl dw, Bool.and_self]⟩
instance : Cl uVa := ⟨fun x => by simp only [uVa, aw, closed, bB, bR, clR (aO eVa), clR (aF eVa), Bool.and_self]⟩
instance : Cl jw := ⟨fun x => by simp only [jw, aw, closed, cl uVa, Bool.and_self]⟩
instance : Cl ep := ⟨fun x => by simp only [ep, aw, bR, cl uVa, Bool.and_self]⟩
variable [jq] {P : Program} {E : Env}
theorem bz {α : Type} {f : α → List SVal} [Cl f] (σ : Nat → Nat) (x : α) : ren σ (.agg (f x)) = .agg (f x) := dj _ _ (clA f x)
theorem bx {α : Type} {f : α → List SVal} [Cl f] (σ : Nat → Nat) (b : Bool) (l : List α) : ren σ (.lst b (l.map f)) = .lst b (l.map f) := dj _ _ (clS f b l)
noncomputable def xO (P : Program) (E : Env) (fn : Func) (o : aV) (args : List SVal) (Ψ : SVal → List aV → Prop) : Prop := match fn with
 | { ntmps := n, results := rs, body := some b, .. } => yes (Nat.ble args.length n) <| got (sB 0 args) fun t => xC P E 2 b ⟨n, t⟩ ⟨[(0, aS), (1, o)], 2, 0, [], []⟩ (finM E 2 rs.toList Ψ)
 | _ => False
theorem df (hE : a7 P E) {f : FuncId} {fn : Func} (hf : E.funcs.get f = some fn) {o : aV} {args : List SVal} {Ψ : SVal → aV → Prop} (ho : bm o = true) (hn : nbL 2 args = true) (h : xO P E fn o args fun s os => closed s = true ∧ ∃ o', os = [aS, o'] ∧ bm o' = true ∧ Ψ s o') : jr P f o args Ψ :=
 hasO_of hE hf ho hn h
noncomputable def xRw (P : Program) (E : Env) (fn : Func) (m : Nat) (rest : List SVal) (rows : List (List SVal)) (t : Nat) (args : List SVal) (Ψ : SVal → List aV → Prop) : Prop := match fn with
 | { ntmps := n, results := rs, body := some b, .. } => yes (Nat.ble args.length n) <| got (sB 0 args) fun tt => xC P E 3 b ⟨n, tt⟩ ⟨[(0, aS), (1, .cells (.own 2 t :: rest)), (2, .row m rows t false)], 3, 0, [], []⟩ (finM E 3 rs.toList Ψ)
 | _ => False
theorem kQ (hE : a7 P E) {f : FuncId} {fn : Func} (hf : E.funcs.get f = some fn) {m : Nat} {rest : List SVal} {rows : List (List SVal)} {args : List SVal} {Ψ : SVal → List (List SVal) → Prop} (h1 : aw rest = true) (h2 : aJ rows = true) (hn : nbL 3 args = true)
  (h : ∀ t, xRw P E fn m rest rows t args fun s os => closed s = true ∧ ∃ rows' t', os = aS :: jk m rest rows' t' ∧ aJ rows' = true ∧ Ψ s rows') : pg P f m rest rows args Ψ :=
 hasRw_of hE hf h1 h2 hn h
end Sv
namespace Sv
open Go Go.RowKit
theorem W.z8 {P : Program} {lo : Nat} {z : Code} {fr : Fr} {st : St} {Φ : Ex → Fr → St → Prop} {b : Nat} {l : List SVal} (hb : st.look b = some (.cells l)) (hf : eL l = true)
  (h : W P lo z fr (st.put b (.still l)) Φ) : W P lo z fr st Φ := by
 intro ro B D c w a he hr Q hq
 obtain ⟨c', e1, h2, h3, h4⟩ := tH hb he.rep (fJ hf) fun b' arr e hc hw => by
  obtain ⟨lc, g1, g2⟩ := he.rep.cW _ _ hb
  rw [hc] at g1
  cases g1
  obtain ⟨arr', e', k1, k2, k3⟩ := g2
  rw [hw] at k1
  cases k1
  exact k2
 have hsta := cL (.still l) hb
 have hs : dr lo c st.look w c' (st.put b (.still l)).look w := h3.c he.low
 have ht := hsta.c he.low
 refine h ⟨h2, he.wf.sta hsta, fun n hn => by rw [e1]; exact he.dom n hn, ⟨he.fr.size, fun t x hx => ?_, he.fr.defers⟩, he.mks, he.base, Nat.le_trans he.low hsta.next, by rw [hsta.mark]; exact he.mark⟩ hr fun x fr' st' D' c2 a' w' g1 g2 g3 g4 g5 => hq x fr' st' D' c2 a' w' g1 g2 (hs.trans g3) (ht.trans g4) g5
 obtain ⟨v, f1, f2⟩ := he.fr.get t x hx
 exact ⟨v, f1, Den.le h3.le _ _ f2⟩
section
variable {P : Program} {lo : Nat} {n : Nat} {t : List (Nat × SVal)} {heap : Hp} {next : Nat} {l : List SVal}
theorem R.z8 {z : Code} {K : Ex → Fr → St → Prop} (b : Nat) (hb : ba heap b = some (.cells l)) (hf : eL l = true)
  (h : R P lo z ⟨n, t⟩ ⟨fY heap b (.still l), next, 0, [], []⟩ K) : R P lo z ⟨n, t⟩ ⟨heap, next, 0, [], []⟩ K := by
 obtain ⟨x, fr', st', h1, h2⟩ := h
 exact ⟨x, fr', st', fun Φ hΦ => W.z8 (st := ⟨heap, next, 0, [], []⟩) hb hf (h1 Φ hΦ), h2⟩
theorem oO {z : Code} {K : Ex → Fr → St → Prop} (b : Nat) (hb : ba heap b = some (.cells l)) (hf : eL l = true)
  (h : dS P lo z ⟨n, t⟩ ⟨fY heap b (.still l), next, 0, [], []⟩ K) : dS P lo z ⟨n, t⟩ ⟨heap, next, 0, [], []⟩ K := ⟨R.z8 b hb hf h.out⟩
end
theorem as_all {α : Type} {f : α → List SVal} {l : List α} {K : List (List SVal) → Prop} (k : K (l.map f)) : AsR (List.drop 0 (List.take l.length (l.map f))) K := ⟨by
 rw [← List.length_map (f := f), List.take_length]
 exact k⟩
theorem nD {P : Program} {o : Oper} {ev : Evl} {st st1 st2 : St} {d : Go.Call} {fop : Operand} {f : FuncId} {first cap ss args : List SVal} {s : SVal} (ho : o.op = .call d) (hc : d.callee = .value fop) (hf : ev fop = some (.func (.func f) first cap)) (hev : evs ev d.args.toList = some ss) (ha : FzL st (first ++ (ss ++ cap)) args st1) (h : fB P f args st1 s st2) : bg P o ev st s st2 :=
 ⟨by simp [ho], ha.sta.1.trans h.sta, fun {c w} hr hwf hfr {e} he a next Q hn => by
  obtain ⟨vs, h1, h2⟩ := gh (P := P) ho hc hf hev he
  obtain ⟨fn, body, g1, g2, g3⟩ := h.body
  rw [h2]
  obtain ⟨c1, e1, r1, s1, d1⟩ := ha.ok hr h1
  refine dR g1 g2 g3 (h.ok r1 (hwf.sta ha.sta.1) (fun k g1 g2 => by rw [ha.sta.2] at g1; rw [e1]; exact hfr k g1 g2) d1) o a next Q fun v w' ⟨c2, gd⟩ => ?_
  exact hn c2 v w' ⟨gd.val, gd.rep, s1.trans gd.step ha.sta.1.next h.sta.next⟩⟩
section
variable [jq] {P : Program}
theorem sh {f : FuncId} {o o1 : aV} {v fn fn' : SVal} {st : St} {K : SVal → St → Prop} {s : Nat} (n : Nat) (h : jr P f o [.own 1 s, fn'] fun x o' => x = v ∧ o' = o1) (hn : Nat.ble 1 n = true) (hfc : closed fn' = true)
  (k : fzN [fn] st fun l st1 => l = [fn'] ∧ st1.look 0 = some aS ∧ st1.look n = some o ∧ fE st1 n o1 (K v)) : dI P f [.own n s, fn] st K := by
 obtain ⟨ho, r, os, h1, h2, o', rfl, h3, rfl, rfl⟩ := h
 obtain ⟨l', st1, g1, rfl, g2, g3, g4⟩ := gw k
 have hnd : (0 :: [n]).Nodup := by
  have := Nat.le_of_ble_eq_true hn
  simp; omega
 have hc := kK (objs := [o]) (objs' := [o']) h1 (big := st1) (ks := [n]) rfl hnd g2 (fun i k o1 e1 e2 => by
  cases i with
  | zero => simp at e1 e2; subst e1 e2; rw [eu _ ho]; exact g3
  | succ i => simp at e1)
 rw [dj _ _ h2, show fD (sig [n]) [n] [o'] st1 = st1.put n o' by show st1.put n (ef _ o') = _; rw [eu _ h3], show bV (sig [n]) [.own 1 s, fn'] = [.own n s, fn'] by rw [bV, bV, dj _ fn' hfc]; rfl] at hc
 exact ⟨_, _, fun _ _ _ _ _ _ _ ho hc' hf hev he => nD ho hc' hf hev (by rw [he]; exact .same g1) hc, cM g4⟩
end
theorem zQ {α : Type} {f : α → List SVal} {l : List α} {i off : Nat} {v row row' : List SVal} {K : List (List SVal) → Prop} (x y : α) (ux : f x = row) (uy : f y = row') (h : l[i]? = some x) (hr : ij row off v = some row') (k : K ((l.set i y).map f)) : WrR (l.map f) i off v K := by
 subst ux uy
 exact bT x y h hr k
theorem opSem_pre {P : Program} {o : Oper} {ev : Evl} {st st1 st' : St} {s : SVal} (hsta : Sta st st1)
  (hpre : ∀ {c : Ctx} {w : World}, Rep c st.look w → Wf st → mc c st.next st'.next → ∃ c1, Rep c1 st1.look w ∧ Step st.next st1.next c st.look w c1 st1.look w) (h : bg P o ev st1 s st') : bg P o ev st s st' where
 nd := h.nd
 sta := hsta.trans h.sta
 ok := fun {c w} hr hwf hfr {e} he a next Q hn => by
  obtain ⟨c1, h2, h3⟩ := hpre hr hwf hfr
  exact h.ok h2 (hwf.sta hsta) (mc.step hfr h3 hsta.next) (fun x hx s hs => Den.le h3.le _ _ (he x hx s hs)) a next Q fun c' v w' gd => hn c' v w' ⟨gd.val, gd.rep, h3.trans gd.step hsta.next h.sta.next⟩
theorem call_nameB {P : Program} {f : FuncId} {args : List SVal} {st : St} {K : SVal → St → Prop} {l : List SVal} (k i m : Nat) (hk : st.look k = some (.cells l)) (hi : l[i]? = some .az)
  (h : fE (st.fresh (.row m [] 0 false)) k (.cells (l.set i (.own st.next 0))) fun st1 => dI P f args st1 K) (hw : Nat.ble (Nat.succ k) st.next = true) : dI P f args st K := by
 have hne : k ≠ st.next := fun e => by
  have := Nat.le_of_ble_eq_true hw
  omega
 have hk' : (st.fresh (.row m [] 0 false)).look k = some (.cells l) := by
  rw [look_eq]
  have h6 := cm hk
  show (if bN k st.ban = true then none else ba ((st.next, aV.row m [] 0 false) :: st.heap) k) = _
  rw [h6.2, bI, if_neg (Ne.symm hne), h6.1]
  rfl
 have hsta := (cO st (.row m [] 0 false)).trans (cL (.cells (l.set i (.own st.next 0))) hk')
 obtain ⟨s, st', h1, h2⟩ := (cM h).out
 refine ⟨s, st', fun _ _ _ _ _ _ _ ho hc' hf hev he => ?_, h2⟩
 have g := h1 _ _ _ _ _ _ _ ho hc' hf hev he
 refine opSem_pre hsta (fun {c w} hr hwf hfr => ?_) g
 have hn : c.ρ st.next = none := hfr _ (Nat.le_refl _) (Nat.lt_of_lt_of_le (Nat.lt_succ_self _) g.sta.next)
 obtain ⟨c', h2, h3, h5, h4⟩ := qX hr hn hwf m
 obtain ⟨h7, h8⟩ := gn (o' := .cells (l.set i (.own st.next 0))) hk' h2 fun lc ho => by
  cases lc with
  | row => exact ho.elim
  | box b =>
   obtain ⟨arr, e, g1, g2, g3⟩ := ho
   exact ⟨arr, e, g1, jS h4 hi g2, g3⟩
 exact ⟨c', h7, h3.trans h8 (Nat.le_succ _) (Nat.le_refl _)⟩
theorem ez {P : Program} {f : FuncId} {args : List SVal} {heap : Hp} {next mark : Nat} {log : List Nat} {ban : List (Nat × Nat)} {K : SVal → St → Prop} {l : List SVal} (k i m : Nat) (hk : St.look ⟨heap, next, mark, log, ban⟩ k = some (.cells l)) (hi : l[i]? = some .az)
  (h : fE ⟨(next, .row m [] 0 false) :: heap, next + 1, mark, log, ban⟩ k (.cells (l.set i (.own next 0))) fun st1 => dI P f args st1 K) (hw : Nat.ble (Nat.succ k) next = true) : dI P f args ⟨heap, next, mark, log, ban⟩ K :=
 call_nameB k i m hk hi h hw
section
variable [jq] {P : Program}
theorem cN {f : FuncId} {m off : Nat} {rest : List SVal} {rows rows1 : List (List SVal)} {args args' : List SVal} {v : SVal} {st : St} {K : SVal → St → Prop} (n k t : Nat) (h : pg P f m rest rows (.ptr 1 off :: args') fun s r => s = v ∧ r = rows1) (hcl : aw args' = true) (hn : (Nat.ble 1 n && Nat.ble 1 k && !(Nat.beq n k)) = true)
  (kk : fzN args st fun l st1 => l = args' ∧ st1.look 0 = some aS ∧ st1.look n = some (.cells (.own k t :: rest)) ∧ st1.look k = some (.row m rows t false) ∧ ∀ t', fE st1 n (.cells (.own k t' :: rest)) fun st => fE st k (.row m rows1 t' false) (K v)) : dI P f (.ptr n off :: args) st K := by
 obtain ⟨g1, g2, h⟩ := h
 obtain ⟨s, os, h1, h2, r, t', rfl, h3, rfl, rfl⟩ := h t
 obtain ⟨l', st1, f1, rfl, h0, hl, hl2, kk⟩ := gw kk
 rw [Bool.and_eq_true, Bool.and_eq_true] at hn
 have hnd : (0 :: [n, k]).Nodup := by
  have a1 := Nat.le_of_ble_eq_true hn.1.1
  have a2 := Nat.le_of_ble_eq_true hn.1.2
  have a3 : n ≠ k := fun e => by subst e; have := hn.2; simp at this
  simp; omega
 have hren : ∀ u r, ef (sig [n, k]) (.cells (.own 2 u :: rest)) = .cells (.own k u :: rest) ∧ (aJ r = true → ef (sig [n, k]) (.row m r u false) = .row m r u false) := fun u r =>
  ⟨by show aV.cells (ren _ (.own 2 u) :: bV _ rest) = _; rw [bC _ _ g1]; rfl, fun hr => eu _ hr⟩
 have hc := kK (objs := jk m rest rows t) (objs' := jk m rest r t') h1 (big := st1) (ks := [n, k]) rfl hnd h0 (fun i k' o1 e1 e2 => by
  cases i with
  | zero => simp [jk] at e1 e2; subst e1 e2; rw [(hren t rows).1]; exact hl
  | succ i =>
   cases i with
   | zero => simp [jk] at e1 e2; subst e1 e2; rw [(hren t rows).2 g2]; exact hl2
   | succ i => simp at e1)
 rw [dj _ _ h2, show fD (sig [n, k]) [n, k] (jk m rest r t') st1 = (st1.put n (.cells (.own k t' :: rest))).put k (.row m r t' false) by
  show (st1.put n (ef _ _)).put k (ef _ _) = _
  rw [(hren t' r).1, (hren t' r).2 h3], show bV (sig [n, k]) (.ptr 1 off :: l') = .ptr n off :: l' by rw [bV, bC _ _ hcl]; rfl] at hc
 exact ⟨_, _, fun _ _ _ _ _ _ _ ho hc' hf hev he => nD ho hc' hf hev (by rw [he]; exact .same f1) hc, cM (cM (kk t'))⟩
end
theorem sA {rows : List (List SVal)} {K : List (List SVal) → Prop} (k : K rows) : AsR ([] ++ rows) K := ⟨k⟩
theorem lst_nil {c : Ctx} {v : Value} (h : Den c (.lst true []) v) : ∃ a, v = .slice a 0 0 := by
 rcases h with ⟨_, a, cap, h1, h2⟩ | ⟨b, base, size, cap, h1, h2, h3, _⟩
 ·exact ⟨a, by rw [h1, h2 rfl]⟩
 ·exact ⟨_, by rw [h1, h3 rfl]; rfl⟩
theorem name_repL {st : St} {c : Ctx} {w : World} (hr : Rep c st.look w) (hf : c.ρ st.next = none) (hwf : Wf st) (m : Nat) {v : Value} (hv : ∃ a, v = .slice a 0 0) :
  ∃ c', Rep c' (st.fresh (.row m [] 0 false)).look w ∧ Step st.next (st.fresh (.row m [] 0 false)).next c st.look w c' (st.fresh (.row m [] 0 false)).look w ∧ (∀ k, k ≠ st.next → c'.ρ k = c.ρ k) ∧ Den c' (.own st.next 0) v := by
 obtain ⟨a, rfl⟩ := hv
 obtain ⟨g1, g2⟩ := fm (o := .row m [] 0 false) (l := .row none 0 m (.slice a 0 0)) hr hf hwf (cE.refl w) (fun b hb => by cases hb) ⟨rfl, rfl, rfl, a, rfl⟩
 refine ⟨_, g1, g2, fun k hk => ?_, ?_⟩
 ·show (if k = st.next then _ else c.ρ k) = _
  rw [if_neg hk]
 ·exact fy (b8 _ _ _) ⟨_, _, _, rfl⟩
theorem W.nameL {P : Program} {lo : Nat} {z : Code} {fr fr1 : Fr} {st : St} {Φ : Ex → Fr → St → Prop} (d m : Nat) (hn : fr1.n = fr.n) (hd : fr.get d = some (.lst true [])) (hf : ∀ t x, fr1.get t = some x → (t ≠ d ∧ fr.get t = some x) ∨ (t = d ∧ x = .own st.next 0))
  (h : W P lo z fr1 (st.fresh (.row m [] 0 false)) Φ) : W P lo z fr st Φ := by
 intro ro B D c w a he hr Q hq
 obtain ⟨v, e1, e2⟩ := he.fr.get d _ hd
 obtain ⟨c', h2, h3, h5, h4⟩ := name_repL he.rep (he.dom _ (Nat.le_refl _)) he.wf m (lst_nil e2)
 have hs : dr lo c st.look w c' (st.fresh (.row m [] 0 false)).look w := h3.c he.low
 have hsta := cO st (.row m [] 0 false)
 have ht := hsta.c he.low
 refine h ⟨h2, he.wf.sta hsta, fun n hn => ?_, ⟨by rw [hn]; exact he.fr.size, fun t x hx => ?_, he.fr.defers⟩, he.mks, he.base, Nat.le_trans he.low hsta.next, by rw [hsta.mark]; exact he.mark⟩ hr fun x fr' st' D' c2 a' w' g1 g2 g3 g4 g5 => hq x fr' st' D' c2 a' w' g1 g2 (hs.trans g3) (ht.trans g4) (g5.trans hn)
 ·have hn : st.next + 1 ≤ n := hn
  rw [h5 n (by omega)]
  exact he.dom n (by omega)
 ·rcases hf t x hx with ⟨_, e⟩ | ⟨rfl, rfl⟩
  ·obtain ⟨v, e1, e2⟩ := he.fr.get t x e
   exact ⟨v, e1, Den.le h3.le _ _ e2⟩
  ·exact ⟨v, e1, h4⟩
theorem loop_nameL {P : Program} {lo : Nat} {z : Code} {n : Nat} {t : List (Nat × SVal)} {heap : Hp} {next mark : Nat} {log : List Nat} {ban : List (Nat × Nat)} {K : Ex → Fr → St → Prop} (d m : Nat) (hd : ba t d = some (.lst true []))
  (h : dS P lo z ⟨n, (d, .own next 0) :: t⟩ ⟨(next, .row m [] 0 false) :: heap, next + 1, mark, log, ban⟩ K) : dS P lo z ⟨n, t⟩ ⟨heap, next, mark, log, ban⟩ K := by
 obtain ⟨x, fr', st', h1, h2⟩ := h.out
 refine ⟨⟨x, fr', st', fun Φ hΦ => W.nameL (fr := ⟨n, t⟩) (fr1 := ⟨n, (d, .own next 0) :: t⟩) d m rfl hd (fun k x hx => ?_) (h1 Φ hΦ), h2⟩⟩
 have h1 : (if d = k then some (SVal.own next 0) else ba t k) = some x := (bI (d, SVal.own next 0) t k).symm.trans hx
 by_cases e : d = k
 ·rw [if_pos e] at h1
  exact .inr ⟨e.symm, (Option.some.inj h1).symm⟩
 ·rw [if_neg e] at h1
  exact .inl ⟨fun h => e h.symm, h1⟩
theorem nil_lst {c : Ctx} {v : Value} (h : Den c .az v) : Den c (.lst false []) v := .inl ⟨rfl, none, 0, h, fun e => by cases e⟩
theorem W.lstB {P : Program} {lo : Nat} {z : Code} {fr : Fr} {st : St} {Φ : Ex → Fr → St → Prop} {b i : Nat} {l : List SVal} (hb : st.look b = some (.cells l)) (hi : l[i]? = some .az)
  (h : W P lo z fr (st.put b (.cells (l.set i (.lst false [])))) Φ) : W P lo z fr st Φ := by
 intro ro B D c w a he hr Q hq
 obtain ⟨h7, h8⟩ := gn (o' := .cells (l.set i (.lst false []))) hb he.rep fun lc ho => by
  cases lc with
  | row => exact ho.elim
  | box bb =>
   obtain ⟨arr, e, g1, g2, g3⟩ := ho
   exact ⟨arr, e, g1, jS (fun v hv => nil_lst hv) hi g2, g3⟩
 have hsta := cL (.cells (l.set i (.lst false []))) hb
 have hs : dr lo c st.look w c (st.put b (.cells (l.set i (.lst false [])))).look w := h8.c he.low
 have ht := hsta.c he.low
 exact h ⟨h7, he.wf.sta hsta, he.dom, he.fr, he.mks, he.base, Nat.le_trans he.low hsta.next, by rw [hsta.mark]; exact he.mark⟩ hr fun x fr' st' D' c2 a' w' g1 g2 g3 g4 g5 => hq x fr' st' D' c2 a' w' g1 g2 (hs.trans g3) (ht.trans g4) g5
theorem gf {P : Program} {lo : Nat} {z : Code} {n : Nat} {t : List (Nat × SVal)} {heap : Hp} {next : Nat} {K : Ex → Fr → St → Prop} {l : List SVal} (b i : Nat) (hb : ba heap b = some (.cells l)) (hi : l[i]? = some .az)
  (h : dS P lo z ⟨n, t⟩ ⟨fY heap b (.cells (l.set i (.lst false []))), next, 0, [], []⟩ K) : dS P lo z ⟨n, t⟩ ⟨heap, next, 0, [], []⟩ K := by
 obtain ⟨x, fr', st', h1, h2⟩ := h.out
 exact ⟨x, fr', st', fun Φ hΦ => W.lstB (st := ⟨heap, next, 0, [], []⟩) hb hi (h1 Φ hΦ), h2⟩
theorem W.rowT {P : Program} {lo : Nat} {z : Code} {fr : Fr} {st : St} {Φ : Ex → Fr → St → Prop} {b m s : Nat} {rows : List (List SVal)} (hb : st.look b = some (.row m rows s false))
  (h : W P lo z fr (st.put b (.row m rows s true)) Φ) : W P lo z fr st Φ := by
 intro ro B D c w a he hr Q hq
 obtain ⟨h7, h8⟩ := gn (o' := .row m rows s true) hb he.rep fun lc ho => by
  cases lc with
  | box => exact ho.elim
  | row ob st' sz u =>
   obtain ⟨g1, g2, g3⟩ := ho
   refine ⟨g1, g2, ?_⟩
   cases ob with
   | none => exact g3
   | some bb =>
    obtain ⟨arr, e, cap, h⟩ := g3
    exact ⟨arr, e, cap, h.val, h.cells, h.size, h.fits, h.elems, fun i v hv => absurd (h.fz i v hv).1 (by decide)⟩
 have hsta := cL (.row m rows s true) hb
 have hs : dr lo c st.look w c (st.put b (.row m rows s true)).look w := h8.c he.low
 have ht := hsta.c he.low
 exact h ⟨h7, he.wf.sta hsta, he.dom, he.fr, he.mks, he.base, Nat.le_trans he.low hsta.next, by rw [hsta.mark]; exact he.mark⟩ hr fun x fr' st' D' c2 a' w' g1 g2 g3 g4 g5 => hq x fr' st' D' c2 a' w' g1 g2 (hs.trans g3) (ht.trans g4) g5
theorem loop_rowT {P : Program} {lo : Nat} {z : Code} {n : Nat} {t : List (Nat × SVal)} {heap : Hp} {next : Nat} {K : Ex → Fr → St → Prop} {m s : Nat} {rows : List (List SVal)} (b : Nat) (hb : ba heap b = some (.row m rows s false))
  (h : dS P lo z ⟨n, t⟩ ⟨fY heap b (.row m rows s true), next, 0, [], []⟩ K) : dS P lo z ⟨n, t⟩ ⟨heap, next, 0, [], []⟩ K := by
 obtain ⟨x, fr', st', h1, h2⟩ := h.out
 exact ⟨x, fr', st', fun Φ hΦ => W.rowT (st := ⟨heap, next, 0, [], []⟩) hb (h1 Φ hΦ), h2⟩
noncomputable def firstRange (c : Code) : Option (List Tmp × Code × Code) :=
 Code.rec (motive := fun _ => Option (List Tmp × Code × Code)) none (fun _ _ _ => none) (fun _ _ a b => Option.rec b some a) (fun _ _ _ a b => Option.rec b some a) (fun _ _ a => a) (fun _ a => a) (fun _ ps x y _ _ => some (ps.toList, x, y)) (fun _ => none)
  (fun _ a => a) (fun _ => none) (fun _ => none) none (fun _ => none) c
noncomputable def kD (fn : Func) : List Tmp × Code × Code := match fn with
 | { body := some b, .. } => (firstRange b).getD ([], .skip, .skip)
 | _ => ([], .skip, .skip)
section
variable {σ : Nat → Nat} {m : Nat} (hσ : ∀ k, k < m → σ k = k)
include hσ
mutual
theorem kB : ∀ s : SVal, nb m s = true → ren σ s = s
 | .bool _, _ => rfl
 | .int _ _, _ => rfl
 | .str _, _ => rfl
 | .nilPtr, _ => rfl
 | .az, _ => rfl
 | .dy, _ => rfl
 | .eE, _ => rfl
 | .nilIface, _ => rfl
 | .ptr k off, h => by rw [ren, hσ k (of_decide_eq_true h)]
 | .ec k s i off, h => by rw [ren, hσ k (of_decide_eq_true h)]
 | .own k s, h => by rw [ren, hσ k (of_decide_eq_true h)]
 | .map k, h => by rw [ren, hσ k (of_decide_eq_true h)]
 | .bA row off, h => by rw [ren, dM row h]
 | .lst f rows, h => by rw [ren, qF rows h]
 | .func fn x y, h => by
  rw [nb, Bool.and_eq_true, Bool.and_eq_true] at h
  rw [ren, dM x h.1.2, dM y h.2]
  cases fn <;> first | rfl | (have := h.1.1; rw [ta, hσ _ (of_decide_eq_true this)])
 | .iface t v, h => by rw [ren, kB v h]
 | .agg l, h => by rw [ren, dM l h]
 | .tup l, h => by rw [ren, dM l h]
theorem dM : ∀ l : List SVal, nbL m l = true → bV σ l = l
 | [], _ => rfl
 | s :: r, h => by
  rw [nbL, Bool.and_eq_true] at h
  rw [bV, kB s h.1, dM r h.2]
theorem qF : ∀ l : List (List SVal), nbR m l = true → jh σ l = l
 | [], _ => rfl
 | s :: r, h => by
  rw [nbR, Bool.and_eq_true] at h
  rw [jh, dM s h.1, qF r h.2]
end
theorem xJ : ∀ l : List (SVal × SVal), nbE m l = true → qJ σ l = l
 | [], _ => rfl
 | p :: r, h => by
  rw [nbE, Bool.and_eq_true, Bool.and_eq_true] at h
  rw [qJ, kB hσ p.1 h.1.1, kB hσ p.2 h.1.2, xJ r h.2]
theorem xE : ∀ l : List (Nat × SVal), nbF m l = true → s9 σ l = l
 | [], _ => rfl
 | p :: r, h => by
  rw [nbF, Bool.and_eq_true] at h
  rw [s9, kB hσ p.2 h.1, xE r h.2]
theorem xH : ∀ {o : aV}, nbO m o = true → ef σ o = o
 | .cells l, h => congrArg aV.cells (dM hσ l h)
 | .still l, h => congrArg aV.still (dM hσ l h)
 | .row m rows s y, h => congrArg (fun r => aV.row m r s y) (qF hσ rows h)
 | .map es, h => congrArg aV.map (xJ hσ es h)
 | .jl g l, h => congrArg (aV.jl g) (dM hσ l h)
 | .loop r, h => by
  show aV.loop ⟨⟨r.fr.n, s9 σ r.fr.t⟩, _, _, _, _, _⟩ = _
  rw [xE hσ _ h]
end
noncomputable def xP : Nat → List aV → St → St
 | i, o :: os, st => xP (i + 1) os (st.put i o)
 | _, [], st => st
noncomputable def lJ : Nat → List aV → St → (St → Prop) → Prop
 | i, o :: os, st, K => fE st i o fun st' => lJ (i + 1) os st' K
 | _, [], st, K => K st
theorem nI : ∀ {os : List aV} {i : Nat} {st : St} {K : St → Prop}, lJ i os st K → K (xP i os st)
 | [], i, st, K, h => by unfold lJ at h; exact h
 | o :: os, i, st, K, h => by
  unfold lJ at h
  have g : lJ (i + 1) os (st.put i o) K := cM h
  show K (xP (i + 1) os (st.put i o))
  exact nI g
theorem qM {σ : Nat → Nat} : ∀ {os : List aV} {i : Nat} {st : St}, (∀ o ∈ os, ef σ o = o) → fD σ (List.range' i os.length) os st = xP i os st
 | [], i, st, _ => rfl
 | o :: os, i, st, h => by
  show fD σ (List.range' (i + 1) os.length) os (st.put i (ef σ o)) = _
  rw [h o (List.mem_cons_self ..), qM fun x hx => h x (List.mem_cons_of_mem _ hx)]
  rfl
def ra (st : St) : Nat → List aV → Prop
 | i, o :: os => st.look i = some o ∧ ra st (i + 1) os
 | _, [] => True
theorem tW {st : St} : ∀ {os : List aV} {i : Nat}, ra st i os → ∀ (j : Nat) (o : aV), os[j]? = some o → st.look (i + j) = some o
 | [], _, _, j, o, h => by simp at h
 | o :: os, i, ⟨h1, h2⟩, 0, x, h => by simp at h; subst h; exact h1
 | o :: os, i, ⟨h1, h2⟩, j + 1, x, h => by
  have := tW h2 j x (by simpa using h)
  rw [show i + (j + 1) = i + 1 + j by omega]
  exact this
theorem tU {P : Program} {f : FuncId} {objs objs' : List aV} {args : List SVal} {s : SVal} (h : sJ P f objs args s objs') {big : St} (hl : ra big 0 objs) : fB P f args big s (xP 0 objs' big) := by
 have hσ : ∀ k, k < objs.length → (List.range objs.length).getD k 0 = k := fun k hk => by simp [List.getD, hk]
 have hc := qY h (big := big) (ks := List.range objs.length) (σ := fun i => (List.range objs.length).getD i 0) (fun _ => rfl) (by simp) List.nodup_range fun i k o h1 h2 => by
  have hi : i < objs.length := (List.getElem?_eq_some_iff.1 h2).1
  rw [xH hσ (h.po o (List.mem_of_getElem? h2)).2]
  have := tW hl i o h2
  rw [Nat.zero_add] at this
  simp [hi] at h1
  rw [← h1]; exact this
 have e := qM (σ := fun i => (List.range objs.length).getD i 0) (os := objs') (i := 0) (st := big) fun o ho => xH hσ (h.po' o ho).2
 rw [dM hσ _ h.na, kB hσ _ h.ns] at hc
 rw [← List.range_eq_range', h.len] at e
 rw [← e]
 exact hc
section
variable {P : Program} {E : Env}
structure YEnd (next k : Nat) (x : Ex) (st3 : St) (K : SVal → St → Prop) : Prop where
 out : ∃ (r3 : gD) (heap2 : Hp) (next2 : Nat), st3.look k = some (.loop r3) ∧ iF next ⟨heap2, next2, 0, [], []⟩ (st3.put k (.loop ⟨r3.fr, r3.ps, r3.assign, r3.body, Bool.rec 2 0 (de x), gx x⟩)) ∧ jy next2 heap2 heap2 ∧ K (.bool (de x)) ⟨heap2, next2, 0, [], []⟩
def bodK (next k : Nat) (K : SVal → St → Prop) (x : Ex) (_ : Fr) (st : St) : Prop := YEnd next k x st K
structure AsgR (P : Program) (E : Env) (next k : Nat) (r : gD) (K : SVal → St → Prop) (fr1 : Fr) (st1 : St) : Prop where
 out : st1.look k = some (.loop r) ∧ xC P E next r.body fr1 (st1.put k (.loop ⟨r.fr, r.ps, r.assign, r.body, 1, r.ji⟩)) (bodK next k K)
def asgK (P : Program) (E : Env) (next k : Nat) (r : gD) (K : SVal → St → Prop) (x : Ex) (fr : Fr) (st : St) : Prop := match x with
 | .normal => AsgR P E next k r K fr st
 | _ => False
theorem pV (hE : a7 P E) {k : Nat} {ss : List SVal} {heap : Hp} {next : Nat} {K : SVal → St → Prop} {r : gD} {fr : Fr} (hk : ba heap k = some (.loop r)) (h0 : r.state = 0) (hp : qO r.ps ss r.fr = some fr) (hh : jy next heap heap) (ha : nbL next ss = true)
  (h : xC P E next r.assign fr ⟨heap, next, 0, [], []⟩ (asgK P E next k r K)) : YieldR P k ss ⟨heap, next, 0, [], []⟩ K := by
 obtain ⟨x, fr1, st1, h1, h2⟩ := gG P E next hE h
 cases x with
 | exit j => exact h2.elim
 | ret => exact h2.elim
 | normal =>
  obtain ⟨h3, h4⟩ := AsgR.out h2
  obtain ⟨y, fr2, st3, h5, h6⟩ := gG P E next hE h4
  obtain ⟨r3, heap2, next2, g1, g2, g3, g4⟩ := YEnd.out h6
  have hsta : Sta ⟨heap, next, 0, [], []⟩ ⟨heap2, next2, 0, [], []⟩ := {
   ban := rfl
   mark := rfl
   next := g2.low
   log := fun _ h => h
   same := fun k _ h2 => absurd h2 (Nat.not_lt_zero k)
   wf := fun _ k hk => by
    have hk : next2 ≤ k := hk
    show ba heap2 k = none
    cases hx : ba heap2 k with
    | none => rfl
    | some o => have := (eo g3 k o hx).2.2; omega
   vis := fun n hn => .inl hn }
  refine ⟨_, _, fun o d fop first cap ev ho hc hf hev => sem_yield ho hc hf hev hk h0 hp hsta (fun k o hk => (eo hh k o hk).2.1) ha ?_, g4⟩
  exact h1 _ ⟨rfl, h3, h5 _ ⟨r3, g1, rfl, g2⟩⟩
theorem asg_go {k : Nat} {next : Nat} {K : SVal → St → Prop} {r : gD} {fr1 : Fr} {heap1 : Hp} {next1 : Nat} (hk : ba heap1 k = some (.loop r))
  (h : xC P E next r.body fr1 ⟨fY heap1 k (.loop ⟨r.fr, r.ps, r.assign, r.body, 1, r.ji⟩), next1, 0, [], []⟩ (bodK next k K)) : AsgR P E next k r K fr1 ⟨heap1, next1, 0, [], []⟩ := ⟨hk, h⟩
theorem pz {k next : Nat} {x : Ex} {K : SVal → St → Prop} {heap3 : Hp} {next3 : Nat} (r3 : gD) (hk : ba heap3 k = some (.loop r3)) (hn : next ≤ next3)
  (hh : jy next3 (fY heap3 k (.loop ⟨r3.fr, r3.ps, r3.assign, r3.body, Bool.rec 2 0 (de x), gx x⟩)) (fY heap3 k (.loop ⟨r3.fr, r3.ps, r3.assign, r3.body, Bool.rec 2 0 (de x), gx x⟩)))
  (kk : K (.bool (de x)) ⟨fY heap3 k (.loop ⟨r3.fr, r3.ps, r3.assign, r3.body, Bool.rec 2 0 (de x), gx x⟩), next3, 0, [], []⟩) : YEnd next k x ⟨heap3, next3, 0, [], []⟩ K :=
 ⟨r3, _, next3, hk, ⟨Nat.le_refl _, hn, rfl, rfl, rfl, (fun k hk => by cases hk), eo hh, fun _ _ => rfl⟩, hh, kk⟩
def rangeK (k : Nat) (fr : Fr) (K : Ex → Fr → St → Prop) (st : St) : Prop :=
 ∃ rc ex, st.look k = some (.loop rc) ∧ rc.state ≠ 1 ∧ jumpEx rc.ji = some ex ∧ K ex fr (st.drop k)
noncomputable def fzS : List SVal → St → (List SVal → St → Prop) → Prop
 | [], st, K => K [] st
 | s :: r, st, K => match s with
  | .ptr k off => fzS r st fun r' st' => K (.ptr k off :: r') st'
  | .func f x y => fzS r st fun r' st' => K (.func f x y :: r') st'
  | s => fz1 s st fun s' st' => fzS r st' fun r' st'' => K (s' :: r') st''
theorem vM : ∀ {l : List SVal} {st : St} {K : List SVal → St → Prop}, fzS l st K → ∃ l' st', FzL st l l' st' ∧ K l' st'
 | [], st, K, h => ⟨[], st, .nil, by unfold fzS at h; exact h⟩
 | s :: r, st, K, h => by
  unfold fzS at h
  split at h
  ·obtain ⟨l', st', h1, h2⟩ := vM h
   exact ⟨_, _, .same h1, h2⟩
  ·obtain ⟨l', st', h1, h2⟩ := vM h
   exact ⟨_, _, .same h1, h2⟩
  ·obtain ⟨s', st1, h1, h2⟩ := fz1_ok h
   obtain ⟨l', st', h3, h4⟩ := vM h2
   exact ⟨_, _, FzL.app h1 h3, h4⟩
noncomputable def xMh (P : Program) (E : Env) (fn : Func) (heap : Hp) (m : Nat) (args : List SVal) (Ψ : SVal → List aV → Prop) : Prop := match fn with
 | { ntmps := n, results := rs, body := some b, .. } => yes (Nat.ble args.length n) <| got (sB 0 args) fun t => xC P E m b ⟨n, t⟩ ⟨heap, m, 0, [], []⟩ (finM E m rs.toList Ψ)
 | _ => False
theorem jM (hE : a7 P E) {f : FuncId} {fn : Func} (hf : E.funcs.get f = some fn) {objs : List aV} {args : List SVal} {Ψ : SVal → List aV → Prop} (heap : Hp) (m : Nat) (hh : pn 0 objs = heap) (hl : objs.length = m) (hp : iO m objs) (hn : nbL m args = true) (h : xMh P E fn heap m args Ψ) : sK P f objs args Ψ := by
 subst hh hl
 exact pN P E hE hf hp hn h
theorem gz {f : FuncId} {objs : List aV} {args' args : List SVal} {Ψ : SVal → List aV → Prop} {st : St} {K : SVal → St → Prop} (h : sK P f objs args' Ψ)
  (k : fzS args st fun l st1 => l = args' ∧ ra st1 0 objs ∧ ∀ s objs', Ψ s objs' → lJ 0 objs' st1 (K s)) : dI P f args st K := by
 obtain ⟨s, objs', h1, h2⟩ := h
 obtain ⟨l', st1, f1, rfl, hl, kk⟩ := vM k
 exact ⟨_, _, fun _ _ _ _ _ _ _ ho hc' hf hev he => nD ho hc' hf hev (by rw [he]; exact f1) (tU h1 hl), nI (kk s objs' h2)⟩
theorem oJ {lo : Nat} {g : Operand} {ps : Array Tmp} {x y : Code} {n : Nat} {t t1 : List (Nat × SVal)} {heap : Hp} {next : Nat} {K : Ex → Fr → St → Prop} {f : FuncId} {first cap : List SVal} {objs : List aV} {args' : List SVal} {Ψ : SVal → List aV → Prop}
  (h : sK P f objs args' Ψ) (hf1 : subF next t t1) (hg : evS ⟨n, t⟩ g = some (.func (.func f) first cap)) (n1 : gL x = true) (n2 : gL y = true) (ha : cg (first ++ ([SVal.func (.yield next) [] []] ++ cap)) = args')
  (hl : ra ⟨(next, .loop ⟨⟨n, t1⟩, ps.toList, x, y, 0, none⟩) :: heap, next + 1, 0, [], []⟩ 0 objs)
  (k : ∀ s objs', Ψ s objs' → lJ 0 objs' ⟨(next, .loop ⟨⟨n, t1⟩, ps.toList, x, y, 0, none⟩) :: heap, next + 1, 0, [], []⟩ (rangeK next ⟨n, t⟩ K)) : sG P lo (.rangeFunc g ps x y) ⟨n, t⟩ ⟨heap, next, 0, [], []⟩ K := by
 obtain ⟨s, objs', h1, h2⟩ := h
 have hc := tU h1 hl
 obtain ⟨rc, ex, e1, e2, e3, e4⟩ := nI (k s objs' h2)
 refine ⟨⟨ex, ⟨n, t⟩, _, fun Φ hΦ => W.range (st := ⟨heap, next, 0, [], []⟩) (fr := ⟨n, t⟩) (fr1 := ⟨n, t1⟩) rfl (fun k s hs => (pD hf1 k s hs).1) hg n1 n2 ⟨hc.body, hc.sta, fun hr hwf hfree vs hd => hc.ok hr hwf hfree ?_⟩ e1 e2 e3 hΦ, e4⟩⟩
 rw [← ha]
 exact eY _ _ hd
theorem oI {lo : Nat} {z : Code} {n : Nat} {t : List (Nat × SVal)} {heap : Hp} {next : Nat} {K : Ex → Fr → St → Prop} {l : List SVal} (k i m : Nat) (hk : ba heap k = some (.cells l)) (hi : l[i]? = some .az)
  (h : sG P lo z ⟨n, t⟩ ⟨fY ((next, .row m [] 0 false) :: heap) k (.cells (l.set i (.own next 0))), next + 1, 0, [], []⟩ K) : sG P lo z ⟨n, t⟩ ⟨heap, next, 0, [], []⟩ K := by
 obtain ⟨x, fr', st', h1, h2⟩ := h.out
 exact ⟨x, fr', st', fun Φ hΦ => W.nameB (st := ⟨heap, next, 0, [], []⟩) m hk hi (h1 Φ hΦ), h2⟩
end
end Sv
namespace Sv
open Go Go.RowKit
structure Bx (Q : Prop) : Prop where
 out : Q
theorem z {P Q : Prop} (k : Q) (h : Bx Q → P := by
  intro h
  (try conv => whnf)
  (repeat ((first | refine And.intro (And.intro (by omega) (by omega)) ?_ | refine And.intro rfl ?_ | refine len_rep ?_ | refine len_set ?_ | refine len_go ?_ | rw [Nat.beq_refl] | refine And.intro (lens1 rfl) ?_ | refine And.intro (KeyF.ok (kf := SVal.int IntKind.i64) _) (And.intro (keysOk (kf := SVal.int IntKind.i64) _ _) ?_) | refine And.intro (KeyF.ok (kf := SVal.str) _) (And.intro (keysOk (kf := SVal.str) _ _) ?_) | refine And.intro (by first | omega | (simp only [List.length_map, List.length_nil]; omega) | (simp only [List.length_map, List.length_singleton]; omega) | (simp only [List.length_map, List.length_nil, List.length_cons, List.length_singleton, List.length_append]; omega) | (intro r hr; obtain ⟨x, _, rfl⟩ := List.mem_map.1 hr; first | rfl | (rw [bX]; rfl) | (rw [cq]; rfl) | (rw [dV]; rfl))) ?_); (try conv => whnf)))
  exact h.out) : P := h ⟨k⟩
section
variable {ι : Type} {P : Program} {E : Env} {lo : Nat}
theorem bk {F : ι → Fr} {S : ι → St} {m : ι → Nat} {i : ι} {fr : Fr} {st : St} (j : ι)
  (k : Fits lo fr st (F j) (S j) := by
   refine fitsM ?_ ?_ ?_ ?_ ?_ <;> (repeat' first | exact trivial | exact rfl | exact b7 _ _ _ | exact cz _ _ _ | exact nO _ _ | exact kJ (fun _ => rfl) _ | exact Nat.le_of_ble_eq_true rfl | refine And.intro ?_ ?_ | (simp only [nb, nbL, nbO, nbF, nbR, aC, aQ, b7, cz, cV, Bool.and_self, Bool.true_and, Bool.and_true]; done) | (simp only [nb, nbL, nbO, nbF, nbR, aC, aQ, b7, cz, cV, Bool.and_self, Bool.true_and, Bool.and_true, aW _ _ hc]; done) | (simp [nb, nbL, nbO, nbF, nbR, aC, aQ, b7, cz, cV, Bool.and_self, Bool.true_and, Bool.and_true]; done) | omega))
  (h : m j < m i := by (dsimp only; omega)) : np P lo F S m i fr st := back_go j h k
theorem lg {α : Type} (hE : a7 P E) {z : Code} {fr : Fr} {st : St} {K : Ex → Fr → St → Prop} (G : α → Prop × Fr × St × Nat) (i : {x // (G x).1}) (h : ∀ x (hx : (G x).1), xC P E lo z (G x).2.1 (G x).2.2.1 (loopK P lo (fun i : {x // (G x).1} => (G i.1).2.1) (fun i => (G i.1).2.2.1) (fun i => (G i.1).2.2.2) ⟨x, hx⟩ K))
  (h0 : Fits lo fr st (G i.1).2.1 (G i.1).2.2.1 := by
   refine fitsM ?_ ?_ ?_ ?_ ?_ <;> (repeat' first | exact trivial | exact rfl | exact b7 _ _ _ | exact cz _ _ _ | exact nO _ _ | exact kJ (fun _ => rfl) _ | exact Nat.le_of_ble_eq_true rfl | refine And.intro ?_ ?_ | (simp only [nb, nbL, nbO, nbF, nbR, aC, aQ, b7, cz, cV, Bool.and_self, Bool.true_and, Bool.and_true]; done) | (simp only [nb, nbL, nbO, nbF, nbR, aC, aQ, b7, cz, cV, Bool.and_self, Bool.true_and, Bool.and_true, aW _ _ hc]; done) | (simp [nb, nbL, nbO, nbF, nbR, aC, aQ, b7, cz, cV, Bool.and_self, Bool.true_and, Bool.and_true]; done) | omega)) : dS P lo z fr st K := loop_go hE (fun i : {x // (G x).1} => (G i.1).2.1) (fun i => (G i.1).2.2.1) (fun i => (G i.1).2.2.2) i h0 fun i => h i.1 i.2
end
section
variable {next mark : Nat} {log : List Nat} {ban : List (Nat × Nat)} {ss l : List SVal} {heap heap0 : Hp} {next1 : Nat}
variable [jq]
theorem ed {K : List SVal → St → Prop} (k : K ss ⟨heap, next1, mark, log, ban⟩) (hn : next ≤ next1 := by omega)
  (hh : jy next1 heap heap := by
   (repeat' first | exact trivial | exact rfl | exact b7 _ _ _ | exact cz _ _ _ | exact nO _ _ | exact kJ (fun _ => rfl) _ | exact Nat.le_of_ble_eq_true rfl | refine And.intro ?_ ?_ | (simp only [nb, nbL, nbO, nbF, nbR, aC, aQ, b7, cz, cV, Bool.and_self, Bool.true_and, Bool.and_true]; done) | (simp only [nb, nbL, nbO, nbF, nbR, aC, aQ, b7, cz, cV, Bool.and_self, Bool.true_and, Bool.and_true, aW _ _ hc]; done) | (simp [nb, nbL, nbO, nbF, nbR, aC, aQ, b7, cz, cV, Bool.and_self, Bool.true_and, Bool.and_true]; done) | omega))
  (hs : xq heap0 heap log next := by (repeat' first | exact trivial | exact Or.inl rfl | exact Or.inr (by decide) | refine And.intro ?_ ?_)) (hb : ban.all (fun p => Nat.ble p.2 next1) = true := by rfl) (hl : gV mark ban log = true := by rfl) (hv : nbL next1 ss = true := by rfl) : EndD heap0 next mark ban ss ⟨heap, next1, mark, log, ban⟩ K := end_allD hn hh hs hb hl hv k
theorem ei {K : List SVal → St → Prop} (k : K ss ⟨heap, next1, 0, [], []⟩) (hn : next ≤ next1 := by omega)
  (hh : jy next1 heap heap := by
   (repeat' first | exact trivial | exact rfl | exact b7 _ _ _ | exact cz _ _ _ | exact nO _ _ | exact kJ (fun _ => rfl) _ | exact Nat.le_of_ble_eq_true rfl | refine And.intro ?_ ?_ | (simp only [nb, nbL, nbO, nbF, nbR, aC, aQ, b7, cz, cV, Bool.and_self, Bool.true_and, Bool.and_true]; done) | (simp only [nb, nbL, nbO, nbF, nbR, aC, aQ, b7, cz, cV, Bool.and_self, Bool.true_and, Bool.and_true, aW _ _ hc]; done) | (simp [nb, nbL, nbO, nbF, nbR, aC, aQ, b7, cz, cV, Bool.and_self, Bool.true_and, Bool.and_true]; done) | omega))
  (hs : nbL next1 ss = true := by rfl) : EndI next ss ⟨heap, next1, 0, [], []⟩ K := end_all hn hh hs k
theorem mt {K : List SVal → List aV → Prop} (hs : ba heap 0 = some aS := by rfl) (hx : 1 ≤ next := by first | omega | exact Nat.le_of_ble_eq_true rfl)
  (hc : aw l = true := by first | rfl | simp only [bm, aw, closed, aJ, cY, bS, bM, eVl, uVa, bB, bR, clR, cl, Bool.and_self])
  (k : K l [aS] := by first | exact ⟨rfl, rfl, rfl⟩ | exact ⟨by simp only [bm, aw, closed, aJ, cY, bS, bM, eVl, uVa, bB, bR, clR, cl, Bool.and_self], rfl, rfl⟩) : hO 1 l ⟨heap, next, 0, [], []⟩ K := ye hs hx hc k
theorem mst {K : List SVal → List aV → Prop} (hs : ba heap 0 = some aS := by rfl) (hx : 1 ≤ next := by omega)
  (hc : aw l = true := by first | rfl | simp only [bm, aw, closed, aJ, cY, bS, bM, eVl, uVa, bB, bR, clR, cl, Bool.and_self])
  (k : K l [aS] := by first | exact ⟨rfl, rfl, rfl⟩ | exact ⟨by simp only [bm, aw, closed, aJ, cY, bS, bM, eVl, uVa, bB, bR, clR, cl, Bool.and_self], rfl, rfl⟩) : MutR 1 l ⟨heap, next, 0, [], []⟩ K := cy (ye hs hx hc k)
end
section
variable {P : Program} {E : Env} {f : FuncId} {fn : Func} {args : List SVal}
theorem hs {Ψ : SVal → Prop} (hE : a7 P E) (fn : Func) (h : xF P E fn args Ψ) (hf : E.funcs.get f = some fn := by rfl)
  (hc : aw args = true := by first | rfl | (simp only [aw, closed, aJ, bB, bR, clR, cl, cY, Bool.and_self]; done) | (simp only [aw, closed, aJ, bB, bR, clR, cl, cY, hc, Bool.and_self]; done) | (simp only [aw, closed, aJ, cw, bB, bR, clR, cl, cY, Bool.and_self]; done) | simp only [aw, closed, aJ, cw, bB, bR, clR, cl, cY, hc, Bool.and_self]) : Has P f args Ψ := has_of _ _ hE hf hc h
variable [jq]
theorem ht {Ψ : SVal → Prop} (hE : a7 P E) (fn : Func) (h : xT P E fn args fun s o => closed s = true ∧ o = [aS] ∧ Ψ s) (hf : E.funcs.get f = some fn := by rfl)
  (hc : aw args = true := by first | rfl | (simp only [aw, closed, aJ, bB, bR, clR, cl, cY, Bool.and_self]; done) | (simp only [aw, closed, aJ, bB, bR, clR, cl, cY, hc, Bool.and_self]; done) | (simp only [aw, closed, aJ, cw, bB, bR, clR, cl, cY, Bool.and_self]; done) | simp only [aw, closed, aJ, cw, bB, bR, clR, cl, cY, hc, Bool.and_self]) : aY P f args Ψ := hasT_of hE hf hc h
end
section
variable {P : Program} {E : Env} {f : FuncId} {args : List SVal} {heap : Hp} {next mark : Nat}
theorem ci {K : SVal → St → Prop} (hE : a7 P E) (fn : Func) (h : xI P E fn args heap next K) (hf : E.funcs.get f = some fn := by rfl)
  (hh : jy next heap heap := by
   (repeat' first | exact trivial | exact rfl | exact b7 _ _ _ | exact cz _ _ _ | exact nO _ _ | exact kJ (fun _ => rfl) _ | exact Nat.le_of_ble_eq_true rfl | refine And.intro ?_ ?_ | (simp only [nb, nbL, nbO, nbF, nbR, aC, aQ, b7, cz, cV, Bool.and_self, Bool.true_and, Bool.and_true]; done) | (simp only [nb, nbL, nbO, nbF, nbR, aC, aQ, b7, cz, cV, Bool.and_self, Bool.true_and, Bool.and_true, aW _ _ hc]; done) | (simp [nb, nbL, nbO, nbF, nbR, aC, aQ, b7, cz, cV, Bool.and_self, Bool.true_and, Bool.and_true]; done) | omega))
  (ha : nbL next args = true := by first | rfl | (simp only [nb, nbL, nbO, nbF, nbR, aC, aQ, b7, cz, cV, Bool.and_self, Bool.true_and, Bool.and_true]; done) | simp [nb, nbL, nbO, nbF, nbR, aC, aQ, b7, cz, cV, aW _ _ hc]) : dI P f args ⟨heap, next, 0, [], []⟩ K := call_in hE fn hf hh ha h
variable [jq]
theorem cd {ban : List (Nat × Nat)} {K : SVal → St → Prop} (hE : a7 P E) (fn : Func) (h : xD P E fn args heap next mark ban K) (hf : E.funcs.get f = some fn := by rfl)
  (hh : jy next heap heap := by
   (repeat' first | exact trivial | exact rfl | exact b7 _ _ _ | exact cz _ _ _ | exact nO _ _ | exact kJ (fun _ => rfl) _ | exact Nat.le_of_ble_eq_true rfl | refine And.intro ?_ ?_ | (simp only [nb, nbL, nbO, nbF, nbR, aC, aQ, b7, cz, cV, Bool.and_self, Bool.true_and, Bool.and_true]; done) | (simp only [nb, nbL, nbO, nbF, nbR, aC, aQ, b7, cz, cV, Bool.and_self, Bool.true_and, Bool.and_true, aW _ _ hc]; done) | (simp [nb, nbL, nbO, nbF, nbR, aC, aQ, b7, cz, cV, Bool.and_self, Bool.true_and, Bool.and_true]; done) | omega))
  (ha : nbL next args = true := by first | rfl | (simp only [nb, nbL, nbO, nbF, nbR, aC, aQ, b7, cz, cV, Bool.and_self, Bool.true_and, Bool.and_true]; done) | simp [nb, nbL, nbO, nbF, nbR, aC, aQ, b7, cz, cV, aW _ _ hc]) : dI P f args ⟨heap, next, mark, [], ban⟩ K := call_inD hE fn hf hh ha h
theorem ct {v : SVal} {args' : List SVal} {st : St} {K : SVal → St → Prop} (h : aY P f args' fun s => s = v) (k : K v st) (ha : cg args = args' := by rfl) (hl : st.look 0 = some aS := by rfl) : dI P f args st K := gi h ha hl k
theorem ce {v : SVal} {args' : List SVal} {st : St} {K : SVal → St → Prop} (h : Has P f args' fun s => s = v) (k : K v st) (ha : cg args = args' := by rfl) : dI P f args st K := k7 h ha k
theorem fc {l : List SVal} {st : St} {K : List SVal → Prop} (h : aw l = true := by first | rfl | simp only [bm, aw, closed, aJ, cY, bS, bM, eVl, uVa, bB, bR, clR, cl, Bool.and_self]) (k : K l := by rfl) : FzR l st K := kS h k
theorem e2 {K : Prop} {l : List SVal} (h : aw l = true := by simp only [bm, aw, closed, aJ, cY, bS, bM, eVl, uVa, bB, bR, clR, cl, Bool.and_self]) (k : K := by rfl) : aw l = true ∧ K := ⟨h, k⟩
theorem dg (hE : a7 P E) {lo id : Nat} {ops : Array Oper} {fr : Fr} {st : St} {K : Fr → St → Prop} (before : List Nat) (sup : List Tch) (h : wI P E before sup ops.toList ops.toList 0 fr st [] fun fr st acc => fk before sup acc = true ∧ K fr st) (hb : (Region.before ops).toList = before := by kernel_rfl) (hrel : relB ops.toList fr.n = true := by kernel_rfl) : DrawR P lo id ops fr st K := draw_go hE before sup hb hrel h
section
variable {l : List SVal} {heap : Hp} {next : Nat} {K : List SVal → List aV → Prop}
theorem mso {o' : aV} (h0 : ba heap 0 = some aS := by rfl) (h1 : ba heap 1 = some o' := by rfl) (hx : 2 ≤ next := by omega) (hc : aw l = true := by first | rfl | simp only [bm, aw, closed, aJ, cY, bS, bM, eVl, uVa, bB, bR, clR, cl, Bool.and_self]) (ho : bm o' = true := by first | rfl | simp only [bm, aw, closed, aJ, cY, bS, bM, eVl, uVa, bB, bR, clR, cl, Bool.and_self])
  (k : K l [aS, o'] := by first | exact ⟨rfl, _, rfl, rfl, rfl, rfl⟩ | exact ⟨by simp only [bm, aw, closed, aJ, cY, bS, bM, eVl, uVa, bB, bR, clR, cl, Bool.and_self], _, rfl, by simp only [bm, aw, closed, aJ, cY, bS, bM, eVl, uVa, bB, bR, clR, cl, Bool.and_self], rfl, rfl⟩) : MutR 2 l ⟨heap, next, 0, [], []⟩ K := cy (mut_endO h0 h1 hx hc ho k)
theorem ml {t m : Nat} {rest : List SVal} {rows : List (List SVal)} (h0 : ba heap 0 = some aS := by rfl) (h1 : ba heap 1 = some (.cells (.own 2 t :: rest)) := by rfl) (h2 : ba heap 2 = some (.row m rows t false) := by rfl) (hx : 3 ≤ next := by omega) (hc : aw l = true := by first | rfl | simp only [bm, aw, closed, aJ, cY, bS, bM, eVl, uVa, bB, bR, clR, cl, Bool.and_self]) (hr : aw rest = true := by first | rfl | simp only [bm, aw, closed, aJ, cY, bS, bM, eVl, uVa, bB, bR, clR, cl, Bool.and_self]) (ho : aJ rows = true := by first | rfl | simp only [bm, aw, closed, aJ, cY, bS, bM, eVl, uVa, bB, bR, clR, cl, Bool.and_self])
  (k : K l (aS :: jk m rest rows t) := by exact ⟨by simp only [bm, aw, closed, aJ, cY, bS, bM, eVl, uVa, bB, bR, clR, cl, Bool.and_self], _, _, rfl, by simp only [bm, aw, closed, aJ, cY, bS, bM, eVl, uVa, bB, bR, clR, cl, Bool.and_self], rfl, rfl⟩) : hO 3 l ⟨heap, next, 0, [], []⟩ K := yf h0 h1 h2 hx hc hr ho k
theorem msl {t m : Nat} {rest : List SVal} {rows : List (List SVal)} (h0 : ba heap 0 = some aS := by rfl) (h1 : ba heap 1 = some (.cells (.own 2 t :: rest)) := by rfl) (h2 : ba heap 2 = some (.row m rows t false) := by rfl) (hx : 3 ≤ next := by omega) (hc : aw l = true := by first | rfl | simp only [bm, aw, closed, aJ, cY, bS, bM, eVl, uVa, bB, bR, clR, cl, Bool.and_self]) (hr : aw rest = true := by first | rfl | simp only [bm, aw, closed, aJ, cY, bS, bM, eVl, uVa, bB, bR, clR, cl, Bool.and_self]) (ho : aJ rows = true := by first | rfl | simp only [bm, aw, closed, aJ, cY, bS, bM, eVl, uVa, bB, bR, clR, cl, Bool.and_self])
  (k : K l (aS :: jk m rest rows t) := by exact ⟨by simp only [bm, aw, closed, aJ, cY, bS, bM, eVl, uVa, bB, bR, clR, cl, Bool.and_self], _, _, rfl, by simp only [bm, aw, closed, aJ, cY, bS, bM, eVl, uVa, bB, bR, clR, cl, Bool.and_self], rfl, rfl⟩) : MutR 3 l ⟨heap, next, 0, [], []⟩ K := cy (yf h0 h1 h2 hx hc hr ho k)
end
end
end Sv
