/- For ConcreteHidden: numbers and scalars: the mirrors answer. -/
import Derived.Test.YtmjddpeookapaaaGreatDoorNa
import Derived.Test.YtmjddpeookapaaaGreatDoorMe
import Derived.Test.YtmjddpeookapaaaGreatDoorMf
import Derived.Test.YtmjddpeookapaaaGreatDoorMg
set_option linter.unusedVariables false
set_option linter.unusedSimpArgs false
set_option linter.unusedSectionVars false
namespace Go.Proofs.YtmjddpeookapaaaGreatDoor
open Sv
theorem rV (x y : Int) : Tot (rW x y) fun _ => True := by
 unfold rW nanI
 rw [Option.bind_some, Option.bind_some, if_neg (by decide), if_neg (by decide)]
 exact aq (fun _ => ah trivial) fun _ => aq (fun _ => ah trivial) fun _ => ah trivial
theorem cmpJ_tot (x y : Int) : Tot (cmpJ x y) fun _ => True := by
 unfold cmpJ nanJ
 rw [Option.bind_some, Option.bind_some, if_neg (by decide), if_neg (by decide)]
 exact aq (fun _ => ah trivial) fun _ => aq (fun _ => ah trivial) fun _ => ah trivial
theorem zb (x y : List UInt8) : Tot (rT x y) fun _ => True := by
 unfold rT nanS
 rw [Option.bind_some, Option.bind_some, if_neg (by decide), if_neg (by decide)]
 exact aq (fun _ => ah trivial) fun _ => aq (fun _ => ah trivial) fun _ => ah trivial
theorem orI_tot {l : List Int} (h : l.length ≤ 1000000000) : Tot (orI l) fun _ => True := by
 unfold orI
 refine ar h ?_
 have key : ∀ l : List Int, Tot (orIL l) fun _ => True := fun l => by
  induction l with
  | nil => exact ah trivial
  | cons x r ih => exact aq (fun _ => ih) fun _ => ah trivial
 exact key l
theorem mz {n : Nat} {a b : List Stt} (ha : a.length ≤ n) (hb : b.length ≤ n) (hn : n ≤ 19000) : gK a b < 400000000 := by
 unfold gK
 have : (a.length + 2) * (b.length + 2) ≤ 19002 * 19002 := Nat.mul_le_mul (by omega) (by omega)
 omega
theorem rU {n : Nat} {a b : List Stt} (ha : AB n a) (hb : AB n b) (hn : n ≤ 19000) : Tot (ze a b) fun _ => True := by
 unfold ze
 refine an (mQ ha (by omega)) fun a ha => an (mQ hb (by omega)) fun b hb => ?_
 have h1 := mz ha.len hb.len hn
 have h2 := mz hb.len ha.len hn
 refine an (lQ ha.toAB hb.toAB (by omega)) fun x hx => an (lU hx.toAB h1) fun p hp => an (lQ hb.toAB ha.toAB (by omega)) fun y hy => an (lU hy.toAB h2) fun q hq => ?_
 refine aq (fun _ => aq (fun _ => ar (by omega) (ar (by omega) (an (rV _ _) fun c _ => an (zb _ _) fun d _ => orI_tot (by simp)))) fun _ => ah trivial) fun _ => aq (fun _ => ah trivial) fun _ => ah trivial
theorem yx {α : Type} {cmp : α → α → Option Int} {A : α → Prop} (hc : ∀ x y, A x → A y → Tot (cmp x y) fun _ => True) : ∀ {f : Nat} {l : List α} {j : Nat}, (∀ x ∈ l, A x) → j < l.length → l.length ≤ 12 → j < f → Tot (lk cmp 0 f l j) fun r => r.length = l.length ∧ (∀ x ∈ r, A x) ∧ r.Perm l
 | 0, l, j, _, _, _, h => by omega
 | f + 1, l, j, hl, hj, h12, hf => by
  unfold lk
  refine aq (fun h0 => ?_) fun _ => ah ⟨rfl, hl, List.Perm.refl _⟩
  have e1 : ((j : Int) - 1) = ((j - 1 : Nat) : Int) := by omega
  refine aP (by omega) (by omega) fun x hx hxm => ar ⟨by omega, by omega⟩ ?_
  rw [e1]
  refine aP (by omega) (by omega) fun y hy hym => an (hc x y (hl x hxm) (hl y hym)) fun c _ => aq (fun _ => ?_) fun _ => ah ⟨rfl, hl, List.Perm.refl _⟩
  refine aP (by omega) (by omega) fun y' hy' _ => aP (by omega) (by omega) fun x' hx' _ => ?_
  rw [hy] at hy'
  cases hy'
  rw [hx] at hx'
  cases hx'
  rw [show ((j : Int)).toNat = j by omega] at hx
  rw [show (((j - 1 : Nat) : Int)).toNat = j - 1 by omega] at hy
  refine dT (by omega) (by omega) (dT (by omega) (by rw [List.length_set]; omega) ?_)
  rw [show ((j : Int)).toNat = j by omega, show (((j - 1 : Nat) : Int)).toNat = j - 1 by omega]
  have hA : ∀ z ∈ (l.set j y).set (j - 1) x, A z := fun z hz => by
   rcases List.mem_or_eq_of_mem_set hz with hz | rfl
   ·rcases List.mem_or_eq_of_mem_set hz with hz | rfl
    ·exact hl z hz
    ·exact hl _ hym
   ·exact hl _ hxm
  refine (yx hc (f := f) (l := (l.set j y).set (j - 1) x) (j := j - 1) hA (by simp; omega) (by simp; omega) (by omega)).mono fun r ⟨g1, g2, g3⟩ => ⟨by rw [g1]; simp, g2, g3.trans ?_⟩
  have hy' := (List.getElem?_eq_some_iff.1 hy).2
  have hx' := (List.getElem?_eq_some_iff.1 hx).2
  have := @List.set_set_perm _ l j (j - 1) hj (by omega)
  rwa [hy', hx'] at this
theorem yy {α : Type} {cmp : α → α → Option Int} {A : α → Prop} (hc : ∀ x y, A x → A y → Tot (cmp x y) fun _ => True) : ∀ {f : Nat} {l : List α} {i n : Nat}, (∀ x ∈ l, A x) → l.length = n → n ≤ 12 → n < f + i → 1 ≤ f → Tot (eV cmp 0 n f l i) fun r => r.length = l.length ∧ (∀ x ∈ r, A x) ∧ r.Perm l
 | 0, l, i, n, hl, hn, h12, hf, h1 => by omega
 | f + 1, l, i, n, hl, hn, h12, hf, h1 => by
  have e1 : ((i : Int) + 1) = ((i + 1 : Nat) : Int) := by omega
  unfold eV
  refine aq (fun h0 => ?_) fun _ => ah ⟨rfl, hl, List.Perm.refl _⟩
  refine an (yx hc (f := l.length + 1) (l := l) (j := i) hl (by omega) (by omega) (by omega)) fun r ⟨g1, g2, g3⟩ => ar ⟨by omega, by omega⟩ ?_
  rw [e1]
  exact (yy hc (f := f) (l := r) (i := i + 1) (n := n) g2 (by omega) h12 (by omega) (by omega)).mono fun q ⟨h1, h2, h3⟩ => ⟨by omega, h2, h3.trans g3⟩
theorem qm {α : Type} {cmp : α → α → Option Int} {A : α → Prop} (hc : ∀ x y, A x → A y → Tot (cmp x y) fun _ => True) {l : List α} (hl : ∀ x ∈ l, A x) (h12 : l.length ≤ 12) : Tot (hY cmp l) fun r => r.length = l.length ∧ (∀ x ∈ r, A x) ∧ r.Perm l := by
 unfold hY
 refine ar (by omega) ?_
 rw [if_pos (by omega)]
 exact yy hc (f := l.length + 1) (i := 1) (n := l.length) hl rfl h12 (by omega) (by omega)
structure SpB (B : Int) (k : Nat) (l : List Sv.Span) : Prop where
 len : l.length ≤ k
 rng : ∀ s ∈ l, -B ≤ s.lo ∧ s.lo ≤ B ∧ -B ≤ s.hi ∧ s.hi ≤ B
theorem SpB.mono {B C : Int} {k m : Nat} {l : List Sv.Span} (h : SpB B k l) (hB : B ≤ C) (hk : k ≤ m) : SpB C m l := ⟨Nat.le_trans h.len hk, fun s hs => by have := h.rng s hs; omega⟩
def SpI (k : Nat) (l : List Sv.Span) : Prop := l.length ≤ k ∧ ∀ s ∈ l, -9223372036854775808 ≤ s.lo ∧ s.lo < 9223372036854775808 ∧ -9223372036854775808 ≤ s.hi ∧ s.hi < 9223372036854775808
theorem SpB.spI {B : Int} {k : Nat} {l : List Sv.Span} (h : SpB B k l) (hB : B ≤ 1000000000000000000) : SpI k l := ⟨h.len, fun s hs => by have := h.rng s hs; omega⟩
structure Sp (l : List Sv.Span) : Prop where
 ord : ∀ s ∈ l, s.lo ≤ s.hi
 pw : l.Pairwise fun x y => x.hi < y.lo
theorem Sp.nil : Sp [] := ⟨fun s h => (by cases h), List.Pairwise.nil⟩
theorem Sp.push {l : List Sv.Span} (h : Sp l) {p s : Sv.Span} (hp : l[l.length - 1]? = some p) (h1 : p.hi < s.lo) (h2 : s.lo ≤ s.hi) : Sp (l ++ [s]) := by
 refine ⟨fun z hz => ?_, List.pairwise_append.2 ⟨h.pw, by simp, fun z hz y hy => ?_⟩⟩
 ·rcases List.mem_append.1 hz with hz | hz
  ·exact h.ord z hz
  ·rw [List.mem_singleton.1 hz]; exact h2
 ·rw [List.mem_singleton.1 hy]
  obtain ⟨i, hi⟩ := List.mem_iff_getElem?.1 hz
  obtain ⟨hil, hiz⟩ := List.getElem?_eq_some_iff.1 hi
  obtain ⟨hpl, hpz⟩ := List.getElem?_eq_some_iff.1 hp
  by_cases e : i = l.length - 1
  ·subst e
   rw [hp] at hi
   cases hi
   exact h1
  ·have := List.pairwise_iff_getElem.1 h.pw i (l.length - 1) hil hpl (by omega)
   rw [hiz, hpz] at this
   have := h.ord p (List.mem_of_getElem? hp)
   omega
theorem Sp.last {l : List Sv.Span} (h : Sp l) {p : Sv.Span} (hp : l[l.length - 1]? = some p) {v : Int} (hv : p.hi ≤ v) : Sp (l.set (l.length - 1) ⟨p.lo, v⟩) := by
 obtain ⟨hpl, hpz⟩ := List.getElem?_eq_some_iff.1 hp
 have hpo := h.ord p (List.mem_of_getElem? hp)
 refine ⟨fun z hz => ?_, List.pairwise_iff_getElem.2 fun i j hi hj hij => ?_⟩
 ·rcases List.mem_or_eq_of_mem_set hz with hz | rfl
  ·exact h.ord z hz
  ·show p.lo ≤ v
   omega
 ·rw [List.length_set] at hi hj
  have h1 := List.pairwise_iff_getElem.1 h.pw i j hi hj hij
  rw [List.getElem_set, List.getElem_set, if_neg (by omega)]
  split
  ·rename_i e
   subst e
   rw [hpz] at h1
   exact h1
  ·exact h1
theorem nX {next : Int → Option Int} {B : Int} (hB : B ≤ 1000000000000000000) (hn : ∀ x, -B ≤ x → x ≤ B → Tot (next x) fun m => x ≤ m) : ∀ {r out : List Sv.Span} {k : Nat}, k ≤ 1000000 → SpB B k r → (∀ s ∈ r, s.lo ≤ s.hi) → SpB B k out → Sp out → r.length + out.length ≤ k → Tot (lz next r out) fun o => SpB B k o ∧ Sp o
 | [], out, k, _, _, _, h, h', _ => ah ⟨h, h'⟩
 | s :: r, out, k, hk, h1, ho, h2, h2', h3 => by
  rw [List.length_cons] at h3
  have hs := h1.rng s (List.mem_cons_self ..)
  have hso := ho s (List.mem_cons_self ..)
  have hr : SpB B k r := ⟨by omega, fun s hs => h1.rng s (List.mem_cons_of_mem _ hs)⟩
  have hro : ∀ s ∈ r, s.lo ≤ s.hi := fun s hs => ho s (List.mem_cons_of_mem _ hs)
  have hadd : Sp (out ++ [s]) → Tot ((push out s).bind fun out => lz next r out) fun o => SpB B k o ∧ Sp o := fun hsp => aZ (by omega) (nX hB hn hk hr hro ⟨by simp; omega, fun z hz => by
   rcases List.mem_append.1 hz with hz | hz
   ·exact h2.rng z hz
   ·rw [List.mem_singleton.1 hz]; exact hs⟩ hsp (by simp; omega))
  unfold lz
  refine ar (by omega) (aq (fun h0 => ?_) fun h0 => hadd ?_)
  ·refine aP (by omega) (by omega) fun p hp hpm => an (hn p.hi (by have := h2.rng p hpm; omega) (by have := h2.rng p hpm; omega)) fun q hq => ?_
   rw [show ((out.length : Int) - 1).toNat = out.length - 1 by omega] at hp
   refine aq (fun _ => ?_) fun h5 => hadd (h2'.push hp (by omega) hso)
   refine aP (by omega) (by omega) fun p' hp' hpm' => u4 (by omega) (by omega) fun z hz hzm => ?_
   rw [show ((out.length : Int) - 1).toNat = out.length - 1 by omega] at hp' hz ⊢
   rw [hp] at hp' hz
   cases hp'
   cases hz
   have key : -B ≤ mx p.hi s.hi ∧ mx p.hi s.hi ≤ B ∧ p.hi ≤ mx p.hi s.hi := by
    have g1 := h2.rng p hzm
    unfold mx; split <;> omega
   refine nX hB hn hk hr hro ⟨by rw [List.length_set]; exact h2.len, fun y hy => ?_⟩ (h2'.last hp key.2.2) (by rw [List.length_set]; omega)
   rcases List.mem_or_eq_of_mem_set hy with hy | rfl
   ·exact h2.rng y hy
   ·have g1 := h2.rng p hzm
    exact ⟨g1.1, g1.2.1, key.1, key.2.1⟩
  ·have : out = [] := List.length_eq_zero_iff.1 (by omega)
   subst this
   exact ⟨fun z hz => by rw [List.mem_singleton.1 hz]; exact hso, by simp⟩
theorem rp {next : Int → Option Int} {B : Int} (hB : B ≤ 1000000000000000000) (hn : ∀ x, -B ≤ x → x ≤ B → Tot (next x) fun m => x ≤ m) {l : List Sv.Span} {k : Nat} (hk : k ≤ 12) (h : SpB B k l) (ho : ∀ s ∈ l, s.lo ≤ s.hi) : Tot (nW next l) fun o => SpB B k o ∧ Sp o := by
 have hl := h.len
 unfold nW
 refine ar (by omega) (an (qm (A := fun s => (-B ≤ s.lo ∧ s.lo ≤ B ∧ -B ≤ s.hi ∧ s.hi ≤ B) ∧ s.lo ≤ s.hi) (fun x y _ _ => by
  unfold cmpSp
  exact an (cmpJ_tot _ _) fun _ _ => ah trivial) (fun s hs => ⟨h.rng s hs, ho s hs⟩) (by omega)) fun r ⟨g1, g2, _⟩ => ar (by omega) ?_)
 exact nX hB hn (by omega) ⟨by omega, fun s hs => (g2 s hs).1⟩ (fun s hs => (g2 s hs).2) ⟨Nat.zero_le _, fun s hs => by cases hs⟩ Sp.nil (by simp; omega)
theorem vC : ∀ {r out : List Sv.Span} {k : Nat}, k ≤ 1000000 → SpB 100000000000 k out → (∀ s ∈ out, s.lo ≤ s.hi) → r.length + out.length ≤ k → Tot (mkI r out) fun o => SpB 100000000000 k o ∧ ∀ s ∈ o, s.lo ≤ s.hi
 | [], out, k, _, h, h', _ => ah ⟨h, h'⟩
 | x :: r, out, k, hk, h, h', hl => by
  rw [List.length_cons] at hl
  unfold mkI
  refine aq (fun h0 => aZ (by omega) ?_) fun _ => vC hk h h' (by omega)
  refine vC hk ⟨by simp; omega, fun z hz => ?_⟩ (fun z hz => ?_) (by simp; omega)
  rotate_left
  ·rcases List.mem_append.1 hz with hz | hz
   ·exact h' z hz
   ·rw [List.mem_singleton.1 hz]; exact h0
  rcases List.mem_append.1 hz with hz | hz
  ·exact h.rng z hz
  ·rw [List.mem_singleton.1 hz]
   have g1 : -100000000000 ≤ mx x.lo (-100000000000) := by unfold mx; split <;> omega
   have g2 : mn x.hi 100000000000 ≤ 100000000000 := by unfold mn; split <;> omega
   exact ⟨g1, Int.le_trans h0 g2, Int.le_trans g1 h0, g2⟩
theorem stLo_tot {n : Int} (h1 : -1000000000000000 ≤ n) (h2 : n < 9223372036854775808) : Tot (stLo n) fun m => n ≤ m := by
 unfold stLo
 refine aq (fun h => ar ⟨by omega, ?_⟩ (ah (by omega))) fun _ => ah (Int.le_refl _)
 by_cases e : n = 9223372036854775807
 ·subst e
  exact absurd h (by decide)
 ·omega
theorem stHi_tot {n : Int} (h1 : -9223372036854775808 ≤ n) (h2 : n ≤ 1000000000000000) : Tot (stHi n) fun m => m ≤ n := by
 unfold stHi
 refine aq (fun h => ar ⟨?_, by omega⟩ (ah (by omega))) fun _ => ah (Int.le_refl _)
 by_cases e : n = -9223372036854775808
 ·subst e
  exact absurd h (by decide)
 ·omega
theorem vD : ∀ {r out : List Sv.Span} {k : Nat}, k ≤ 1000000 → SpI k r → SpB 1000000000000000 k out → (∀ s ∈ out, s.lo ≤ s.hi) → r.length + out.length ≤ k → Tot (mkF r out) fun o => SpB 1000000000000000 k o ∧ ∀ s ∈ o, s.lo ≤ s.hi
 | [], out, k, _, _, h, h', _ => ah ⟨h, h'⟩
 | x :: r, out, k, hk, hi, h, h', hl => by
  rw [List.length_cons] at hl
  have hx := hi.2 x (List.mem_cons_self ..)
  have hr : SpI k r := ⟨by omega, fun s hs => hi.2 s (List.mem_cons_of_mem _ hs)⟩
  unfold mkF
  refine an (stLo_tot (n := mx x.lo (-1000000000000000)) (by unfold mx; split <;> omega) (by unfold mx; split <;> omega)) fun lo hlo => ?_
  refine an (stHi_tot (n := mn x.hi 1000000000000000) (by unfold mn; split <;> omega) (by unfold mn; split <;> omega)) fun hi' hhi => ?_
  have g1 : -1000000000000000 ≤ lo := Int.le_trans (by unfold mx; split <;> omega) hlo
  have g2 : hi' ≤ 1000000000000000 := Int.le_trans hhi (by unfold mn; split <;> omega)
  refine aq (fun h0 => aZ (by omega) ?_) fun _ => vD hk hr h h' (by omega)
  refine vD hk hr ⟨by simp; omega, fun z hz => ?_⟩ (fun z hz => ?_) (by simp; omega)
  rotate_left
  ·rcases List.mem_append.1 hz with hz | hz
   ·exact h' z hz
   ·rw [List.mem_singleton.1 hz]; exact h0
  rcases List.mem_append.1 hz with hz | hz
  ·exact h.rng z hz
  ·rw [List.mem_singleton.1 hz]
   show -1000000000000000 ≤ lo ∧ lo ≤ _ ∧ -1000000000000000 ≤ hi' ∧ hi' ≤ _
   omega
structure NB (k : Nat) (n : cK) : Prop where
 i : SpB 100000000000 k n.ints
 f : SpB 1000000000000000 k n.bK
 si : Sp n.ints
 sf : Sp n.bK
structure nk (k : Nat) (n : cK) : Prop where
 i : SpI k n.ints
 f : SpI k n.bK
theorem NB.i64 {k : Nat} {n : cK} (h : NB k n) : nk k n := ⟨h.i.spI (by omega), h.f.spI (by omega)⟩
theorem tw {n : Int} (h1 : -1000000000000 ≤ n) (h2 : n ≤ 1000000000000) : Tot (whole n) fun m => m = n + 1 := by
 unfold whole
 exact ar ⟨by omega, by omega⟩ (ah rfl)
theorem back_tot {n : Int} (h1 : -1000000000000 ≤ n) (h2 : n ≤ 1000000000000) : Tot (back n) fun m => m = n - 1 := by
 unfold back
 exact ar ⟨by omega, by omega⟩ (ah rfl)
theorem uS {n : Int} (h1 : -10000000000000000 ≤ n) (h2 : n ≤ 10000000000000000) : Tot (after n) fun m => n < m ∧ m ≤ n + 2 := by
 unfold after
 exact ar ⟨by omega, by omega⟩ (aq (fun _ => ar ⟨by omega, by omega⟩ (ah ⟨by omega, by omega⟩)) fun _ => ah ⟨by omega, by omega⟩)
theorem before_tot {n : Int} (h1 : -10000000000000000 ≤ n) (h2 : n ≤ 10000000000000000) : Tot (before n) fun m => n - 2 ≤ m ∧ m < n := by
 unfold before
 exact ar ⟨by omega, by omega⟩ (aq (fun _ => ar ⟨by omega, by omega⟩ (ah ⟨by omega, by omega⟩)) fun _ => ah ⟨by omega, by omega⟩)
theorem dD {k : Nat} (hk : k ≤ 12) {s : cK} (h : nk k s) : Tot (gM s) (NB k) := by
 have h1 := h.i.1
 have h2 := h.f.1
 have nil : ∀ B, SpB B k [] := fun B => ⟨Nat.zero_le _, fun s hs => by cases hs⟩
 unfold gM
 refine ar (by omega) (an (vC (k := k) (by omega) (nil _) (fun s hs => by cases hs) (by simp; omega)) fun i ⟨hi, hio⟩ => ar (by omega) (an (vD (k := k) (by omega) h.f (nil _) (fun s hs => by cases hs) (by simp; omega)) fun f ⟨hf, hfo⟩ => ?_))
 refine an (rp (by omega) (fun x h1 h2 => (tw (by omega) (by omega)).mono fun _ h => by omega) hk hi hio) fun i' ⟨hi', hi2⟩ => an (rp (by omega) (fun x h1 h2 => (uS (by omega) (by omega)).mono fun _ h => by omega) hk hf hfo) fun f' ⟨hf', hf2⟩ => ah ⟨hi', hf', hi2, hf2⟩
def ov (x y : Sv.Span) : Bool := decide (mx x.lo y.lo ≤ mn x.hi y.hi)
def cnt (a b : List Sv.Span) : Nat := (a.map fun x => b.countP (ov x)).sum
theorem jV (x : Sv.Span) (a b : List Sv.Span) : cnt (x :: a) b = b.countP (ov x) + cnt a b := by simp [cnt]
theorem cnt_col (a : List Sv.Span) (y : Sv.Span) (b : List Sv.Span) : cnt a (y :: b) = a.countP (fun x => ov x y) + cnt a b := by
 induction a with
 | nil => rfl
 | cons x a ih =>
  rw [jV, jV, ih, List.countP_cons, List.countP_cons]
  omega
theorem ov_no {x y : Sv.Span} (h : x.hi < y.lo ∨ y.hi < x.lo) : ov x y = false := by
 unfold ov
 rw [decide_eq_false_iff_not]
 intro h1
 have g1 : x.lo ≤ mx x.lo y.lo ∧ y.lo ≤ mx x.lo y.lo := by unfold mx; split <;> omega
 have g2 : mn x.hi y.hi ≤ x.hi ∧ mn x.hi y.hi ≤ y.hi := by unfold mn; split <;> omega
 omega
theorem Sp.tail {x : Sv.Span} {l : List Sv.Span} (h : Sp (x :: l)) : Sp l := ⟨fun s hs => h.ord s (List.mem_cons_of_mem _ hs), (List.pairwise_cons.1 h.pw).2⟩
theorem cnt_le : ∀ (n : Nat) {a b : List Sv.Span}, a.length + b.length ≤ n → Sp a → Sp b → cnt a b ≤ a.length + b.length
 | _, [], b, _, _, _ => Nat.zero_le _
 | _, x :: a, [], _, _, _ => by
  have : cnt (x :: a) [] = 0 := by
   unfold cnt
   generalize x :: a = l
   induction l with
   | nil => rfl
   | cons z l ih => rw [List.map_cons, List.sum_cons, ih]; rfl
  rw [this]
  exact Nat.zero_le _
 | 0, x :: a, y :: b, h, _, _ => by simp at h
 | n + 1, x :: a, y :: b, h, ha, hb => by
  rw [List.length_cons, List.length_cons] at *
  have hb' : ∀ z ∈ b, y.hi < z.lo := (List.pairwise_cons.1 hb.pw).1
  have ha' : ∀ z ∈ a, x.hi < z.lo := (List.pairwise_cons.1 ha.pw).1
  have hy := hb.ord y (List.mem_cons_self ..)
  have hx := ha.ord x (List.mem_cons_self ..)
  have i1 := cnt_le n (a := a) (b := y :: b) (by rw [List.length_cons]; omega) ha.tail hb
  have i2 := cnt_le n (a := x :: a) (b := b) (by rw [List.length_cons]; omega) ha hb.tail
  rw [List.length_cons] at i1 i2
  by_cases h1 : x.hi ≤ y.hi
  ·have : (y :: b).countP (ov x) ≤ 1 := by
    rw [List.countP_cons]
    have : b.countP (ov x) = 0 := List.countP_eq_zero.2 fun z hz => by rw [ov_no (.inl (by have := hb' z hz; omega))]; decide
    split <;> omega
   rw [jV]
   omega
  ·have : (x :: a).countP (fun x => ov x y) ≤ 1 := by
    rw [List.countP_cons]
    have : a.countP (fun x => ov x y) = 0 := List.countP_eq_zero.2 fun z hz => by
     show ¬ ov z y = true
     rw [ov_no (.inr (by have := ha' z hz; omega))]; decide
    split <;> omega
   rw [cnt_col]
   omega
theorem og {B : Int} {x : Sv.Span} (hx : -B ≤ x.lo ∧ x.lo ≤ B ∧ -B ≤ x.hi ∧ x.hi ≤ B) : ∀ {r out : List Sv.Span}, (∀ s ∈ r, -B ≤ s.lo ∧ s.lo ≤ B ∧ -B ≤ s.hi ∧ s.hi ≤ B) → (∀ s ∈ out, -B ≤ s.lo ∧ s.lo ≤ B ∧ -B ≤ s.hi ∧ s.hi ≤ B) → r.length + out.length < 1000000000 → Tot (oX x r out) fun o => o.length = out.length + r.countP (ov x) ∧ ∀ s ∈ o, -B ≤ s.lo ∧ s.lo ≤ B ∧ -B ≤ s.hi ∧ s.hi ≤ B
 | [], out, _, h, _ => ah ⟨rfl, h⟩
 | y :: r, out, hr, h, hl => by
  rw [List.length_cons] at hl
  have hy := hr y (List.mem_cons_self ..)
  have hr' := fun s hs => hr s (List.mem_cons_of_mem _ hs)
  unfold oX
  refine aq (fun h0 => aZ (by omega) ?_) fun h0 => ?_
  ·refine (og hx (r := r) hr' (fun s hs => ?_) (by simp; omega)).mono fun o ⟨g1, g2⟩ => ⟨?_, g2⟩
   ·rcases List.mem_append.1 hs with hs | hs
    ·exact h s hs
    ·rw [List.mem_singleton.1 hs]
     have g1 : -B ≤ mx x.lo y.lo ∧ mx x.lo y.lo ≤ B := by unfold mx; split <;> omega
     have g2 : -B ≤ mn x.hi y.hi ∧ mn x.hi y.hi ≤ B := by unfold mn; split <;> omega
     exact ⟨g1.1, g1.2, g2.1, g2.2⟩
   ·have : ov x y = true := by unfold ov; exact decide_eq_true h0
    rw [g1, List.countP_cons, this]
    simp
    omega
  ·refine (og hx (r := r) hr' h (by omega)).mono fun o ⟨g1, g2⟩ => ⟨?_, g2⟩
   have : ov x y = false := by unfold ov; exact decide_eq_false h0
   rw [g1, List.countP_cons, this]
   simp
theorem comL_tot {B : Int} {b : List Sv.Span} {k : Nat} (hb : SpB B k b) (hk : k ≤ 1000) (r : List Sv.Span) : ∀ (out : List Sv.Span), (∀ s ∈ r, -B ≤ s.lo ∧ s.lo ≤ B ∧ -B ≤ s.hi ∧ s.hi ≤ B) → (∀ s ∈ out, -B ≤ s.lo ∧ s.lo ≤ B ∧ -B ≤ s.hi ∧ s.hi ≤ B) → out.length + cnt r b < 900000000 → Tot (comL b r out) fun o => o.length = out.length + cnt r b ∧ ∀ s ∈ o, -B ≤ s.lo ∧ s.lo ≤ B ∧ -B ≤ s.hi ∧ s.hi ≤ B := by
 induction r with
 | nil =>
  intro out _ h _
  exact ah ⟨by simp [cnt], h⟩
 | cons x r ih =>
  intro out hr h hl
  rw [jV] at hl
  have hbl := hb.len
  unfold comL
  refine ar (by omega) (an (og (hr x (List.mem_cons_self ..)) hb.rng h (by omega)) fun o ⟨g1, g2⟩ => ?_)
  have hcp : b.countP (ov x) ≤ b.length := List.countP_le_length
  refine (ih o (fun s hs => hr s (List.mem_cons_of_mem _ hs)) g2 (by omega)).mono fun q ⟨h1, h2⟩ => ⟨?_, h2⟩
  rw [h1, g1, jV]
  omega
theorem rO {B : Int} {a b : List Sv.Span} {k m : Nat} (ha : SpB B k a) (hb : SpB B m b) (hk : k ≤ 1000) (hm : m ≤ 1000) (sa : Sp a) (sb : Sp b) : Tot (kZ a b) (SpB B (k + m)) := by
 have h1 := ha.len
 have h2 := hb.len
 unfold kZ
 have hc := cnt_le _ (Nat.le_refl _) sa sb
 refine ar (by omega) ((comL_tot hb hm a [] ha.rng (fun s hs => by cases hs) (by rw [List.length_nil]; omega)).mono fun o ⟨g1, g2⟩ => ⟨?_, g2⟩)
 rw [g1, List.length_nil]
 omega
theorem oU {b : List Sv.Span} : ∀ {r : List Sv.Span} {i : Nat}, i + r.length = b.length → Tot (iU b r i) fun t => t = true → r = b.drop i
 | [], i, h => ah fun _ => by
  rw [List.length_nil] at h
  exact (List.drop_eq_nil_of_le (by omega)).symm
 | x :: r, i, h => by
  rw [List.length_cons] at h
  unfold iU
  refine aP (by omega) (by omega) fun y hy hm => aq (fun h1 => ?_) fun _ => ah fun h => by cases h
  have e1 : ((i : Int) + 1) = ((i + 1 : Nat) : Int) := by omega
  rw [e1]
  refine (oU (r := r) (i := i + 1) (by omega)).mono fun t h2 h3 => ?_
  rw [show ((i : Int)).toNat = i by omega] at hy
  have hi : i < b.length := by omega
  have hxy : x = y := by
   unfold spanEq at h1
   simp only [Bool.and_eq_true, decide_eq_true_eq, and_true] at h1
   cases x
   cases y
   simp only at h1
   rw [h1.1, h1.2]
  rw [List.drop_eq_getElem_cons hi, h2 h3, hxy]
  rw [List.getElem?_eq_getElem hi] at hy
  cases hy
  rfl
theorem jP {a b : List Sv.Span} (h : a.length ≤ 1000000000) : Tot (gR a b) fun t => t = true → a = b := by
 unfold gR
 exact aq (fun h1 => ar h (oU (r := a) (i := 0) (by omega))) fun _ => ah fun h => by cases h
theorem sameN_tot {a b : cK} {k : Nat} (hk : k ≤ 12) (h : nk k a) : Tot (xr a b) fun t => t = true → a = b := by
 have h1 := h.i.1
 have h2 := h.f.1
 unfold xr
 refine an (jP (by omega)) fun p hp => aq (fun h3 => (jP (by omega)).mono fun t ht e => ?_) fun _ => ah fun h => by cases h
 have g1 := hp h3
 have g2 := ht e
 cases a
 cases b
 simp only at g1 g2
 rw [g1, g2]
theorem zZ {a : cK} {k : Nat} (hk : k ≤ 12) (h : nk k a) : Tot (qg a) fun t => t = true → NB k a := by
 unfold qg
 exact an (dD hk h) fun b hb => (sameN_tot hk h).mono fun t ht e => by rw [ht e]; exact hb
theorem andN_tot {a b : cK} {k m : Nat} (hkm : k + m ≤ 12) (ha : nk k a) (hb : nk m b) : Tot (andN a b) (NB (k + m)) := by
 unfold andN
 refine an (dD (by omega) ha) fun x hx => an (dD (by omega) hb) fun y hy => ?_
 refine an (rO hx.i hy.i (by omega) (by omega) hx.si hy.si) fun i hi => an (rO hx.f hy.f (by omega) (by omega) hx.sf hy.sf) fun f hf => ?_
 exact dD hkm ⟨hi.spI (by omega), hf.spI (by omega)⟩
theorem oe {α : Type} {a b : List α} (h : a.length + b.length < 1000000000) : Tot (jU a b) fun r => r = a ++ b := by
 unfold jU
 rw [if_pos h]
 exact ah rfl
theorem SpI.app {k m : Nat} {a b : List Sv.Span} (ha : SpI k a) (hb : SpI m b) : SpI (k + m) (a ++ b) := ⟨by rw [List.length_append]; have := ha.1; have := hb.1; omega, fun s hs => by
 rcases List.mem_append.1 hs with hs | hs
 ·exact ha.2 s hs
 ·exact hb.2 s hs⟩
theorem orN_tot {a b : cK} {k m : Nat} (hkm : k + m ≤ 12) (ha : nk k a) (hb : nk m b) : Tot (orN a b) (NB (k + m)) := by
 have h1 := ha.i.1
 have h2 := ha.f.1
 have h3 := hb.i.1
 have h4 := hb.f.1
 unfold orN
 refine an (oe (by omega)) fun i hi => an (oe (by omega)) fun f hf => ?_
 subst hi hf
 exact dD hkm ⟨ha.i.app hb.i, ha.f.app hb.f⟩
theorem rz {next prev : Int → Option Int} {B : Int} (hB : B ≤ 1000000000000000000) (hn : ∀ x, -B ≤ x → x ≤ B → Tot (next x) fun m => -B - 2 ≤ m ∧ m ≤ B + 2) (hp : ∀ x, -B ≤ x → x ≤ B → Tot (prev x) fun m => -B - 2 ≤ m ∧ m ≤ B + 2) {hi : Int} (hhi : -B ≤ hi ∧ hi ≤ B) {k : Nat} (hk : k ≤ 1000) :
  ∀ {r : List Sv.Span} {lo : Int} {out : List Sv.Span}, (∀ s ∈ r, -B ≤ s.lo ∧ s.lo ≤ B ∧ -B ≤ s.hi ∧ s.hi ≤ B) → -B - 2 ≤ lo ∧ lo ≤ B + 2 → SpB (B + 2) k out → r.length + 1 + out.length ≤ k → Tot (vL next prev hi r lo out) (SpB (B + 2) k)
 | [], lo, out, _, hlo, ho, hl => by
  unfold vL
  refine aq (fun h0 => nz (by omega) ⟨by simp; simp at hl; omega, fun z hz => ?_⟩) fun _ => ah ho
  rcases List.mem_append.1 hz with hz | hz
  ·exact ho.rng z hz
  ·rw [List.mem_singleton.1 hz]
   show -(B + 2) ≤ lo ∧ lo ≤ B + 2 ∧ -(B + 2) ≤ hi ∧ hi ≤ B + 2
   omega
 | s :: r, lo, out, hr, hlo, ho, hl => by
  rw [List.length_cons] at hl
  have hs := hr s (List.mem_cons_self ..)
  have hr' := fun s hs => hr s (List.mem_cons_of_mem _ hs)
  unfold vL
  refine an (hp s.lo hs.1 hs.2.1) fun h hh => aq (fun h0 => aZ (by omega) ?_) fun _ => ?_
  ·refine an (hn s.hi hs.2.2.1 hs.2.2.2) fun l hl' => rz hB hn hp hhi hk hr' hl' ⟨by simp; omega, fun z hz => ?_⟩ (by simp; omega)
   rcases List.mem_append.1 hz with hz | hz
   ·exact ho.rng z hz
   ·rw [List.mem_singleton.1 hz]
    show -(B + 2) ≤ lo ∧ lo ≤ B + 2 ∧ -(B + 2) ≤ h ∧ h ≤ B + 2
    omega
  ·exact an (hn s.hi hs.2.2.1 hs.2.2.2) fun l hl' => rz hB hn hp hhi hk hr' hl' ho (by omega)
theorem uC {next prev : Int → Option Int} {B : Int} (hB : B ≤ 1000000000000000000) (hn : ∀ x, -B ≤ x → x ≤ B → Tot (next x) fun m => -B - 2 ≤ m ∧ m ≤ B + 2) (hp : ∀ x, -B ≤ x → x ≤ B → Tot (prev x) fun m => -B - 2 ≤ m ∧ m ≤ B + 2) {l : List Sv.Span} {all : Sv.Span} (ha : -B ≤ all.lo ∧ all.lo ≤ B ∧ -B ≤ all.hi ∧ all.hi ≤ B) {k : Nat} (hk : k ≤ 100) (h : SpB B k l) : Tot (uD next prev l all) (SpB (B + 2) (k + 1)) := by
 have hl := h.len
 unfold uD gapM
 rw [Option.bind_assoc]
 refine ar (by omega) (an (rz hB hn hp ha.2.2 (k := k + 1) (by omega) h.rng (by omega) ⟨Nat.zero_le _, fun s hs => by cases hs⟩ (by simp; omega)) fun r hr => ah hr)
theorem notN_tot {a : cK} {k : Nat} (hk : k ≤ 11) (h : nk k a) : Tot (notN a) (NB (k + 1)) := by
 unfold notN allN intsN yG
 refine an (dD (by omega) h) fun x hx => ?_
 rw [Option.bind_some, Option.bind_some]
 refine aP (Int.le_refl _) (by simp) fun ai hai _ => ?_
 cases hai
 rw [Option.bind_some]
 refine an (uC (B := 100000000000) (by omega) (fun x h1 h2 => (tw (by omega) (by omega)).mono fun m hm => by omega) (fun x h1 h2 => (back_tot (by omega) (by omega)).mono fun m hm => by omega) (all := ⟨-100000000000, 100000000000⟩) (by decide) (by omega) hx.i) fun i hi => ?_
 refine aP (Int.le_refl _) (by simp) fun af haf _ => ?_
 cases haf
 rw [Option.bind_some]
 refine an (uC (B := 1000000000000000) (by omega) (fun x h1 h2 => (uS (by omega) (by omega)).mono fun m hm => by omega) (fun x h1 h2 => (before_tot (by omega) (by omega)).mono fun m hm => by omega) (all := ⟨-999999999999999, 999999999999999⟩) (by decide) (by omega) hx.f) fun f hf => ?_
 exact dD (by omega) ⟨hi.spI (by omega), hf.spI (by omega)⟩
theorem lO {a b : cK} {k m : Nat} (hkm : k + m ≤ 11) (ha : nk k a) (hb : nk m b) : Tot (lP a b) (NB (k + m + 1)) := by
 unfold lP
 exact an (notN_tot (by omega) hb) fun c hc => (andN_tot (by omega) ha hc.i64).mono fun r hr => hr
theorem qV {u v : Int} (hu : -1000000000000000000 ≤ u ∧ u ≤ 1000000000000000000) (hv : -1000000000000000000 ≤ v ∧ v ≤ 1000000000000000000) : Tot (nN u v) fun _ => True := by
 unfold nN
 exact ar ⟨by omega, by omega⟩ (ar ⟨by omega, by omega⟩ (aq (fun _ => ah trivial) fun _ => aq (fun _ => ah trivial) fun _ => ah trivial))
def LB (p : Int × Bool) : Prop := -1000000000000000 ≤ p.1 ∧ p.1 ≤ 1000000000000000
theorem w9 {u best : Int} {found : Bool} (hu : -1000000000000000 ≤ u ∧ u ≤ 1000000000000000) (hb : -1000000000000000 ≤ best ∧ best ≤ 1000000000000000) : Tot (take u best found) LB := by
 unfold take
 exact aq (fun _ => an (qV (by omega) (by omega)) fun c _ => aq (fun _ => ah hu) fun _ => ah hb) fun _ => ah hu
theorem oN {s : Sv.Span} {m B : Int} (hs : -B ≤ s.lo ∧ s.lo ≤ B ∧ -B ≤ s.hi ∧ s.hi ≤ B) (hm : -B ≤ m ∧ m ≤ B) : Tot (nearest s m) fun x => -B ≤ x ∧ x ≤ B := by
 unfold nearest
 exact aq (fun _ => ah ⟨hs.1, hs.2.1⟩) fun _ => aq (fun _ => ah hs.2.2) fun _ => ah hm
theorem yq : ∀ {l : List Sv.Span} {best : Int} {found : Bool}, (∀ s ∈ l, -100000000000 ≤ s.lo ∧ s.lo ≤ 100000000000 ∧ -100000000000 ≤ s.hi ∧ s.hi ≤ 100000000000) → LB (best, found) → Tot (leL1 l best found) LB
 | [], best, found, _, h => ah h
 | y :: r, best, found, hl, h => by
  unfold leL1
  refine an (oN (B := 100000000000) (hl y (List.mem_cons_self ..)) (by omega)) fun n hn => ar ⟨by omega, by omega⟩ (an (w9 (by omega) h) fun p hp => yq (fun s hs => hl s (List.mem_cons_of_mem _ hs)) hp)
theorem yp : ∀ {l : List Sv.Span} {best : Int} {found : Bool}, (∀ s ∈ l, -1000000000000000 ≤ s.lo ∧ s.lo ≤ 1000000000000000 ∧ -1000000000000000 ≤ s.hi ∧ s.hi ≤ 1000000000000000) → LB (best, found) → Tot (leL2 l best found) LB
 | [], best, found, _, h => ah h
 | y :: r, best, found, hl, h => by
  unfold leL2
  refine an (oN (B := 1000000000000000) (hl y (List.mem_cons_self ..)) (by omega)) fun n hn => an (w9 hn h) fun p hp => yp (fun s hs => hl s (List.mem_cons_of_mem _ hs)) hp
theorem lS {s : cK} {k : Nat} (hk : k ≤ 12) (h : nk k s) : Tot (lT s) LB := by
 unfold lT
 refine an (dD hk h) fun x hx => ?_
 have h1 := hx.i.len
 have h2 := hx.f.len
 exact ar (by omega) (an (yq hx.i.rng (by unfold LB; decide)) fun p hp => ar (by omega) (yp hx.f.rng hp))
theorem cmpN_tot {a b : cK} {k m : Nat} (hkm : k + m ≤ 11) (ha : nk k a) (hb : nk m b) : Tot (cmpN a b) fun _ => True := by
 unfold cmpN
 refine an (lO hkm ha hb) fun x hx => an (lS (by omega) hx.i64) fun p hp => an (lO (by omega) hb ha) fun y hy => an (lS (by omega) hy.i64) fun q hq => ?_
 unfold LB at hp hq
 exact aq (fun _ => aq (fun _ => an (qV (by omega) (by omega)) fun c _ => aq (fun _ => ah trivial) fun _ => ah trivial) fun _ => ah trivial) fun _ => aq (fun _ => ah trivial) fun _ => ah trivial
structure SB (k n : Nat) (s : bW) : Prop where
 i : SpI k s.ints
 f : SpI k s.bK
 a : AB n s.strs
structure SG (k n : Nat) (s : bW) : Prop where
 nb : NB k ⟨s.ints, s.bK⟩
 a : Gd n s.strs
theorem SG.sb {k n : Nat} {s : bW} (h : SG k n s) : SB k n s := ⟨h.nb.i.spI (by omega), h.nb.f.spI (by omega), h.a.toAB⟩
theorem SB.mono {k n k' n' : Nat} {s : bW} (h : SB k n s) (hk : k ≤ k') (hn : n ≤ n') : SB k' n' s := ⟨⟨Nat.le_trans h.i.1 hk, h.i.2⟩, ⟨Nat.le_trans h.f.1 hk, h.f.2⟩, h.a.mono hn⟩
theorem SpI.nil (k : Nat) : SpI k [] := ⟨Nat.zero_le _, fun s h => by cases h⟩
theorem NB.nil (k : Nat) : NB k ⟨[], []⟩ := ⟨⟨Nat.zero_le _, fun s h => by cases h⟩, ⟨Nat.zero_le _, fun s h => by cases h⟩, Sp.nil, Sp.nil⟩
theorem hU (k n : Nat) : SG k n dX := ⟨NB.nil k, Gd.nil n⟩
theorem iH {k n : Nat} (hk : k ≤ 12) (hn : n < 400000000) {s : bW} (h : SB k n s) : Tot (jv s) fun b => b = true → SG k n s := by
 unfold jv
 refine an (zZ hk ⟨h.i, h.f⟩) fun c hc => aq (fun h1 => (hX h.a (by omega)).mono fun b hb e => ⟨hc h1, hb e⟩) fun _ => ah fun h => by cases h
theorem iv {k n : Nat} (hk : k ≤ 12) (hn : n < 400000000) {s : bW} (h : SB k n s) : Tot (rv s) fun r => SG k n r ∧ r.strs.length ≤ s.strs.length := by
 unfold rv
 exact an (iH hk hn h) fun c hc => aq (fun h1 => ah ⟨hc h1, Nat.le_refl _⟩) fun _ => ah ⟨hU k n, Nat.zero_le _⟩
theorem copS_tot {k n : Nat} (hk : k ≤ 12) (hn : n ≤ 18000) {s : bW} (h : SB k n s) : Tot (orS s dX) fun r => SB k n r := by
 unfold orS combine
 refine an (iv hk (by omega) h) fun a ⟨ha, _⟩ => an (iv (k := 0) (n := 0) (by omega) (by omega) (hU 0 0).sb) fun b ⟨hb, hbl⟩ => ?_
 refine an (pG _ _) fun x _ => an (pG _ _) fun y _ => an (pG _ _) fun z _ => ?_
 have hb0 : b.strs = [] := List.length_eq_zero_iff.1 (Nat.le_zero.1 hbl)
 refine an (orN_tot (k := k) (m := 0) (by omega) ⟨ha.sb.i, ha.sb.f⟩ ⟨hb.sb.i, hb.sb.f⟩) fun m hm => ?_
 rw [hb0]
 refine an (vw ha.a.toAB (AB.nil n) (by omega)) fun l ⟨hl, hll⟩ => ah ?_
 refine ⟨hm.i.spI (by omega), hm.f.spI (by omega), ⟨Nat.le_trans (hll rfl) ha.a.len, hl.row, hl.eb⟩⟩
theorem minusS_tot {k m n : Nat} (hkm : k + m ≤ 11) (hn : n ≤ 18000) {s t : bW} (hs : SB k n s) (ht : SB m n t) : Tot (qZ s t) fun r => SB (k + m + 1) 399999999 r := by
 unfold qZ combine
 refine an (iv (by omega) (by omega) hs) fun a ⟨ha, _⟩ => an (iv (by omega) (by omega) ht) fun b ⟨hb, _⟩ => ?_
 refine an (iP _ _) fun x _ => an (iP _ _) fun y _ => an (iP _ _) fun z _ => ?_
 refine an (lO hkm ⟨ha.sb.i, ha.sb.f⟩ ⟨hb.sb.i, hb.sb.f⟩) fun q hq => ?_
 refine an (lQ ha.a.toAB hb.a.toAB (by omega)) fun l hl => ah ?_
 have := mz ha.a.len hb.a.len (n := n) (by omega)
 exact ⟨hq.i.spI (by omega), hq.f.spI (by omega), hl.toAB.mono (by omega)⟩
structure LD (n : Nat) (d : Dat) : Prop where
 eq : d = gZ d.c.kind d.c.num d.c.str
 num : -1000000000000000 ≤ d.c.num ∧ d.c.num ≤ 1000000000000000
 str : d.c.str.length ≤ n
theorem LD.of {n : Nat} {k m : Int} {s : List UInt8} (h1 : -1000000000000000 ≤ m ∧ m ≤ 1000000000000000) (h2 : s.length ≤ n) : LD n (gZ k m s) := ⟨rfl, h1, h2⟩
theorem rk {k n : Nat} (hk : k ≤ 12) (hn : n < 400000000) {s : bW} (h : SB k n s) : Tot (nT s) fun r => LD n r.1 := by
 unfold nT
 refine an (iv hk hn h) fun a ⟨ha, _⟩ => an (lS hk ⟨ha.sb.i, ha.sb.f⟩) fun p hp => an (lU ha.a.toAB hn) fun q hq => ?_
 have z : ∀ k m : Int, -1000000000000000 ≤ m ∧ m ≤ 1000000000000000 → LD n (gZ k m []) := fun k m h => LD.of h (Nat.zero_le _)
 exact aq (fun _ => ah (z _ _ (by decide))) fun _ => aq (fun _ => ah (z _ _ (by decide))) fun _ => aq (fun _ => ah (z _ _ (by decide))) fun _ => aq (fun _ => ah (z _ _ hp)) fun _ => aq (fun _ => ah (LD.of (by decide) hq)) fun _ => ah (z _ _ (by decide))
theorem l7 {k n : Nat} (hk : k ≤ 12) (hn : n < 400000000) {s : bW} (h : SB k n s) : Tot (jQ s) fun _ => True := by
 unfold jQ
 exact an (rk hk hn h) fun p _ => ah trivial
theorem ow {k m n : Nat} (hkm : k + m ≤ 11) (hn : n ≤ 18000) {s t : bW} (hs : SB k n s) (ht : SB m n t) : Tot (kr s t) fun _ => True := by
 unfold kr
 exact an (minusS_tot hkm hn hs ht) fun r hr => l7 (by omega) (by omega) hr
theorem uF {k m n : Nat} (hkm : k + m ≤ 11) (hn : n ≤ 18000) {a b : bW} (ha : SB k n a) (hb : SB m n b) : Tot (rS a b) fun _ => True := by
 have tri_tot : ∀ {x y : Bool} {z : Option Int}, Tot z (fun _ => True) → Tot (tri x y z) fun _ => True := fun {x y z} h => by
  unfold tri
  exact aq (fun _ => ah trivial) fun _ => aq (fun _ => ah trivial) fun _ => h
 unfold rS
 refine an (iH (by omega) (by omega) ha) fun x _ => aq (fun _ => an (iH (by omega) (by omega) hb) fun y _ => aq (fun _ => ?_) fun _ => ah trivial) fun _ => ah trivial
 exact tri_tot (tri_tot (tri_tot (an (cmpN_tot hkm ⟨ha.i, ha.f⟩ ⟨hb.i, hb.f⟩) fun c _ => aq (fun _ => rU ha.a hb.a (by omega)) fun _ => ah trivial)))
theorem tv {s : List UInt8} (hs : s.length < 1000000) : ∀ {n i : Nat} {out : List Stt}, i + n = s.length → AB i out → out.length = i → Tot (p7 s n i out) fun o => AB s.length o ∧ o.length = s.length
 | 0, i, out, h, h1, h2 => ah ⟨h1.mono (by omega), by omega⟩
 | n + 1, i, out, h, h1, h2 => by
  have e1 : ((i : Int) + 1) = ((i + 1 : Nat) : Int) := by omega
  unfold p7
  refine aP (by omega) (by omega) fun b hb _ => aZ (by omega) ?_
  rw [e1]
  have hbb := b.toNat_lt
  refine tv hs (n := n) (i := i + 1) (by omega) ⟨by simp; omega, fun x hx => ?_, fun x hx => ?_⟩ (by simp; omega)
  ·rcases List.mem_append.1 hx with hx | hx
   ·exact h1.row x hx
   ·rw [List.mem_singleton.1 hx]; exact Nat.le_of_ble_eq_true rfl
  ·rcases List.mem_append.1 hx with hx | hx
   ·exact h1.eb x hx
   ·rw [List.mem_singleton.1 hx]
    intro e he
    rw [List.mem_singleton.1 he]
    exact ⟨by show (0 : Int) ≤ (b.toNat : Int); omega, by show (b.toNat : Int) < 256; omega, by show (0 : Int) ≤ (b.toNat : Int); omega, by show (b.toNat : Int) < 256; omega⟩
theorem wordM_tot {s : List UInt8} (hs : s.length < 1000000) : Tot (tu s) fun o => AB (s.length + 1) o := by
 unfold tu
 refine ar (by omega) (an (tv hs (n := s.length) (i := 0) (out := []) (by omega) (AB.nil 0) rfl) fun o ⟨h1, h2⟩ => nz (by omega) ⟨by simp; omega, fun x hx => ?_, fun x hx => ?_⟩)
 ·rcases List.mem_append.1 hx with hx | hx
  ·exact h1.row x hx
  ·rw [List.mem_singleton.1 hx]; exact Nat.zero_le _
 ·rcases List.mem_append.1 hx with hx | hx
  ·exact h1.eb x hx
  ·rw [List.mem_singleton.1 hx]
   intro e he
   cases he
theorem only1_tot (d : dH Dat) : Tot (oL d) fun _ => True := by
 unfold oL
 exact aq (fun _ => aq (fun _ => ah trivial) fun _ => ah trivial) fun _ => ah trivial
theorem onlyD_tot {d : dH Dat} (h1 : d.items.length ≤ 1000000000) (h2 : d.members.length ≤ 1000000000) : Tot (ya d) fun _ => True := by
 have o := only1_tot d
 unfold ya
 refine ar h1 (ar h2 ?_)
 repeat' (first | exact o | exact ah trivial | refine aq (fun _ => ?_) fun _ => ?_)
theorem ownL0_tot : Tot (ig ([] : List (Mem Dat)) 1 1) fun _ => True := by
 unfold ig
 rw [if_neg (by simp)]
 exact ah trivial
theorem yN (u : Int) : Tot (fixV u) fun b => b = true → -1000000000000000 ≤ u ∧ u ≤ 1000000000000000 := by
 unfold fixV
 exact aq (fun h => ah fun e => by have := of_decide_eq_true e; omega) fun _ => ah fun h => by cases h
theorem chk0_tot (k n : Int) (s : List UInt8) : Tot (chkD (gZ k n s)) fun _ => True := by
 unfold chkD oi
 rw [if_neg (by decide)]
 have h0 : Tot (ownD (gZ k n s).c) fun _ => True := by
  have o : Tot (ig (gZ k n s).c.members ((gZ k n s).c.members.length + 1) 1) fun _ => True := ownL0_tot
  unfold ownD
  refine an (onlyD_tot (d := (gZ k n s).c) (show ([] : List Dat).length ≤ 1000000000 from Nat.zero_le _) (show ([] : List (Mem Dat)).length ≤ 1000000000 from Nat.zero_le _)) fun ok _ => aq (fun _ => ?_) fun _ => ah trivial
  have g : (gZ k n s).c.members.length ≤ 1000000000 := show ([] : List (Mem Dat)).length ≤ 1000000000 from Nat.zero_le _
  refine aq (fun _ => aq (fun _ => ar g o) fun _ => aq (fun _ => ar g o) fun _ => ah trivial) fun _ => aq (fun _ => an (yN _) fun ok _ => aq (fun _ => ar g o) fun _ => ah trivial) fun _ => ar g o
 refine an h0 fun e _ => aq (fun _ => ?_) fun _ => ah trivial
 have hc : r5 (gZ k n s).c = some [] := rfl
 rw [hc, Option.bind_some]
 exact ar (by simp) (ah trivial)
theorem tdiv_bd {a : Int} (h : -1000000000000000 - 1 ≤ a ∧ a ≤ 1000000000000000 + 1) : -1000000000001 ≤ a.tdiv 10000 ∧ a.tdiv 10000 ≤ 1000000000001 := by
 rcases Int.le_total 0 a with h0 | h0
 ·rw [Int.tdiv_eq_ediv_of_nonneg h0]
  omega
 ·have e : a = -(-a) := by omega
  rw [e, Int.neg_tdiv, Int.tdiv_eq_ediv_of_nonneg (by omega)]
  omega
theorem lY {u : Int} (h : -1000000000000000 - 1 ≤ u ∧ u ≤ 1000000000000000 + 1) : Tot (lZ u) fun m => -1000000000002 ≤ m ∧ m ≤ 1000000000001 := by
 have := tdiv_bd h
 unfold lZ
 exact ar ⟨by omega, by omega⟩ (aq (fun _ => ar ⟨by omega, by omega⟩ (ah (by omega))) fun _ => ah (by omega))
theorem ui {v : List UInt8} : ∀ {l : List (List UInt8)} {i : Int}, Tot (rr v l i) fun _ => True
 | [], i => ah trivial
 | x :: r, i => by
  unfold rr
  exact aq (fun _ => ah trivial) fun _ => ui
theorem conS_tot {l : List (List UInt8)} {v : List UInt8} (h : l.length ≤ 1000000000) : Tot (conS l v) fun _ => True := by
 unfold conS idxS
 rw [Option.bind_assoc]
 exact ar h (an ui fun _ _ => ah trivial)
theorem kI {a b : Int} (ha : -1000000000000000000 ≤ a ∧ a ≤ 1000000000000000000) (hb : -1000000000000000000 ≤ b ∧ b ≤ 1000000000000000000) : SpI 1 [⟨a, b⟩] := ⟨Nat.le_refl _, fun s hs => by
 rw [List.mem_singleton.1 hs]
 show _ ≤ a ∧ a < _ ∧ _ ≤ b ∧ b < _
 omega⟩
theorem boundN_tot (u : Int) : Tot (sr u) fun p => NB 1 p.1 := by
 unfold sr
 refine an (conS_tot (Nat.le_of_ble_eq_true rfl)) fun c _ => aq (fun _ => an (yN u) fun ok hok => aq (fun h1 => ?_) fun _ => ah (NB.nil 1)) fun _ => ah (NB.nil 1)
 obtain ⟨u1, u2⟩ := hok h1
 refine ar ⟨by omega, by omega⟩ (an (lY (by omega)) fun f1 hf1 => an (dD (k := 1) (by omega) ⟨kI (by omega) (by omega), kI (by omega) (by omega)⟩) fun less _ => ?_)
 refine ar ⟨by omega, by omega⟩ (an (lY (by omega)) fun g hg => ar ⟨by omega, by omega⟩ (an (lY (by omega)) fun h hh => ?_))
 exact an (dD (k := 1) (by omega) ⟨kI (by omega) (by omega), kI (by omega) (by omega)⟩) fun one hone => ah hone
theorem sg0 (a b c : Bool) : SB 1 0 ⟨a, b, c, [], [], []⟩ := ⟨SpI.nil 1, SpI.nil 1, AB.nil 0⟩
theorem ofS0_tot {n : Nat} (hn : n < 900000) {d : Dat} (h : LD n d) : Tot (ofS d) fun p => SB 1 (n + 1) p.1 := by
 have hc : Tot (chkD d) fun _ => True := by rw [h.eq]; exact chk0_tot _ _ _
 have z : ∀ a b c, SB 1 (n + 1) ⟨a, b, c, [], [], []⟩ := fun a b c => (sg0 a b c).mono (Nat.le_refl _) (by omega)
 have hr : Tot (kC d.c) fun p => SB 1 (n + 1) p.1 := by
  unfold kC wz
  refine aq (fun _ => an (boundN_tot _) fun p hp => ah ⟨hp.i.spI (by omega), hp.f.spI (by omega), AB.nil _⟩) fun _ => ?_
  rw [Option.bind_assoc]
  have := h.str
  exact an (wordM_tot (by omega)) fun l hl => ah ⟨SpI.nil 1, SpI.nil 1, hl.mono (by omega)⟩
 unfold ofS
 refine an hc fun e _ => aq (fun _ => ?_) fun _ => ah (z _ _ _)
 exact aq (fun _ => ah (z _ _ _)) fun _ => aq (fun _ => ah (z _ _ _)) fun _ => aq (fun _ => hr) fun _ => aq (fun _ => hr) fun _ => ah (z _ _ _)
theorem xc {k n : Nat} (hk : k ≤ 10) (hn : n < 18000) {s : bW} (h : SB k n s) : Tot (kx s) fun r => LD n r.1 := by
 have z : LD n (gZ 0 0 []) := LD.of (by decide) (Nat.zero_le _)
 unfold kx
 refine an (rk (by omega) (by omega) h) fun p hp => aq (fun _ => an (ofS0_tot (by omega) hp) fun q hq => an (ow (k := k) (m := 1) (n := n + 1) (by omega) (by omega) (h.mono (Nat.le_refl _) (by omega)) hq) fun c _ => aq (fun _ => ah hp) fun _ => ah z) fun _ => ah z
def enc : List Nat → List Nat → Nat
 | r :: R, d :: D => d + r * enc R D
 | _, _ => 0
inductive ot : List Nat → List Nat → Prop
 | nil : ot [] []
 | cons {r d : Nat} {R D : List Nat} : d < r → ot R D → ot (r :: R) (d :: D)
theorem enc_lt : ∀ {R D : List Nat}, ot R D → enc R D < R.prod
 | _, _, .nil => by simp [enc]
 | _, _, .cons (r := r) (d := d) (R := R) (D := D) h1 h2 => by
  have ih := enc_lt h2
  show d + r * enc R D < (r :: R).prod
  rw [List.prod_cons]
  have : r * (enc R D + 1) ≤ r * R.prod := Nat.mul_le_mul_left _ ih
  rw [Nat.mul_add, Nat.mul_one] at this
  omega
theorem enc_inj : ∀ {R D E : List Nat}, ot R D → ot R E → enc R D = enc R E → D = E
 | _, _, _, .nil, .nil, _ => rfl
 | _, _, _, .cons (r := r) (d := d) (R := R) (D := D) h1 h2, .cons (d := e) (D := E) g1 g2, h => by
  have h : d + r * enc R D = e + r * enc R E := h
  have hd : d = e := by
   have m1 : (d + r * enc R D) % r = d := by rw [Nat.add_mul_mod_self_left, Nat.mod_eq_of_lt h1]
   have m2 : (e + r * enc R E) % r = e := by rw [Nat.add_mul_mod_self_left, Nat.mod_eq_of_lt g1]
   rw [h, m2] at m1
   exact m1.symm
  subst hd
  have he : r * enc R D = r * enc R E := by omega
  have := Nat.eq_of_mul_eq_mul_left (by omega) he
  rw [enc_inj h2 g2 this]
theorem ot.app {R D S E : List Nat} (h : ot R D) (g : ot S E) : ot (R ++ S) (D ++ E) := by
 induction h with
 | nil => exact g
 | cons h1 _ ih => exact .cons h1 ih
inductive VK : List (Cls Va) → List Int → Prop
 | nil : VK [] []
 | cons {k : Cls Va} {ks : List (Cls Va)} {s : Int} {v : List Int} : -1 ≤ s → s < k.set.length → VK ks v → VK (k :: ks) (s :: v)
inductive VF (L : Nat) : List (Fld Va) → List Int → Prop
 | nil : VF L [] []
 | cons {f : Fld Va} {fs : List (Fld Va)} {s : Int} {v : List Int} : (s = -1 ∨ s = L ∧ L ≤ f.label.length) → VF L fs v → VF L (f :: fs) (s :: v)
def VOk (c : aI Va) (v : List Int) : Prop := ∃ a b L, v = a ++ b ∧ VK c.aA a ∧ L ≤ 61 ∧ VF L c.fields b
theorem VK.len {ks : List (Cls Va)} {v : List Int} (h : VK ks v) : v.length = ks.length := by
 induction h with
 | nil => rfl
 | cons _ _ _ ih => simp [ih]
theorem VF.len {L : Nat} {fs : List (Fld Va)} {v : List Int} (h : VF L fs v) : v.length = fs.length := by
 induction h with
 | nil => rfl
 | cons _ _ ih => simp [ih]
def yU (a : List Int) : List Nat := a.map fun s => (s + 1).toNat
def digF (b : List Int) : List Nat := b.map fun s => if s = -1 then 0 else 1
theorem VK.digs {ks : List (Cls Va)} {v : List Int} (h : VK ks v) : ot (ks.map fun k => k.set.length + 1) (yU v) := by
 induction h with
 | nil => exact .nil
 | cons h1 h2 _ ih => exact .cons (by show (_ + 1 : Int).toNat < _ + 1; omega) ih
theorem VF.digs {L : Nat} {fs : List (Fld Va)} {v : List Int} (h : VF L fs v) : ot (fs.map fun _ => 2) (digF v) := by
 induction h with
 | nil => exact .nil
 | cons h1 _ ih => exact .cons (by show (if _ then 0 else 1) < 2; split <;> omega) ih
theorem VK.inj {ks : List (Cls Va)} {v w : List Int} (h : VK ks v) (g : VK ks w) (e : yU v = yU w) : v = w := by
 induction h generalizing w with
 | nil => cases g; rfl
 | cons h1 h2 _ ih =>
  cases g with
  | cons g1 g2 g3 =>
   unfold yU at e
   rw [List.map_cons, List.map_cons] at e
   injection e with e1 e2
   rw [ih g3 e2]
   congr 1
   omega
theorem VF.inj {L : Nat} {fs : List (Fld Va)} {v w : List Int} (h : VF L fs v) (g : VF L fs w) (e : digF v = digF w) : v = w := by
 induction h generalizing w with
 | nil => cases g; rfl
 | cons h1 _ ih =>
  cases g with
  | cons g1 g3 =>
   unfold digF at e
   rw [List.map_cons, List.map_cons] at e
   injection e with e1 e2
   rw [ih g3 e2]
   congr 1
   split at e1 <;> split at e1 <;> omega
def radV (c : aI Va) : List Nat := (c.aA.map fun (k : Cls Va) => k.set.length + 1) ++ (62 :: c.fields.map fun (_ : Fld Va) => 2)
def sN (c : aI Va) : Nat := (radV c).prod
def zG (c : aI Va) (v : List Int) (D : List Nat) : Prop := ∃ a b L, v = a ++ b ∧ VK c.aA a ∧ L ≤ 61 ∧ VF L c.fields b ∧ D = yU a ++ (L :: digF b)
theorem zG.digs {c : aI Va} {v : List Int} {D : List Nat} (h : zG c v D) : ot (radV c) D := by
 obtain ⟨a, b, L, _, h1, h2, h3, rfl⟩ := h
 exact h1.digs.app (.cons (by omega) h3.digs)
theorem zG.inj {c : aI Va} {v w : List Int} {D : List Nat} (h : zG c v D) (g : zG c w D) : v = w := by
 obtain ⟨a, b, L, rfl, h1, h2, h3, rfl⟩ := h
 obtain ⟨a', b', L', rfl, g1, g2, g3, e⟩ := g
 have hl : (yU a).length = (yU a').length := by simp [yU, h1.len, g1.len]
 obtain ⟨q1, q2⟩ := List.append_inj e hl
 injection q2 with q2 q3
 subst q2
 rw [h1.inj g1 q1, h3.inj g3 q3]
theorem zX {c : aI Va} {vs : List (List Int)} (hv : ∀ v ∈ vs, VOk c v) (hn : vs.Nodup) : vs.length ≤ sN c := by
 have hex : ∃ f : List Int → List Nat, ∀ v, VOk c v → zG c v (f v) := ⟨fun v => open Classical in if h : ∃ D, zG c v D then h.choose else [], fun v ⟨a, b, L, e, h1, h2, h3⟩ => by
  have h : ∃ D, zG c v D := ⟨_, a, b, L, e, h1, h2, h3, rfl⟩
  simp only [h, dif_pos]
  exact h.choose_spec⟩
 obtain ⟨f, hf⟩ := hex
 have := ik (n := sN c) (l := vs.map fun v => enc (radV c) (f v)) ?_ fun x hx => ?_
 ·rwa [List.length_map] at this
 ·rw [List.nodup_iff_pairwise_ne, List.pairwise_map]
  refine (List.nodup_iff_pairwise_ne.1 hn).imp_of_mem fun {v w} h1 h2 hne e => hne ?_
  have d1 := hf v (hv v h1)
  have d2 := hf w (hv w h2)
  have := enc_inj d1.digs d2.digs e
  rw [← this] at d2
  exact d1.inj d2
 ·obtain ⟨v, h1, rfl⟩ := List.mem_map.1 hx
  exact enc_lt (hf v (hv v h1)).digs
theorem iI {α β : Type} {p q : List α} {s : α} {i : Int} {f : α → Option β} {Q : β → Prop} (hi : i = p.length) (k : Tot (f s) Q) : Tot ((atI (p ++ s :: q) i).bind f) Q := by
 refine aP (by omega) (by simp; omega) fun x hx _ => ?_
 rw [show i.toNat = p.length by omega, List.getElem?_append_right (Nat.le_refl _), Nat.sub_self] at hx
 cases hx
 exact k
theorem set_at {α : Type} (p q : List α) (s t : α) : (p ++ s :: q).set p.length t = p ++ t :: q := by
 rw [List.set_append_right _ _ (Nat.le_refl _), Nat.sub_self]
 rfl
theorem w6 {α β : Type} {p q : List α} {s t : α} {i : Int} {f : List α → Option β} {Q : β → Prop} (hi : i = p.length) (k : Tot (f (p ++ t :: q)) Q) : Tot ((iL (p ++ s :: q) i t).bind f) Q := by
 refine dT (by omega) (by simp; omega) ?_
 rw [show i.toNat = p.length by omega, set_at]
 exact k
theorem yv : ∀ {r : List Int} {out : List UInt8}, (∀ n ∈ r, -1 ≤ n ∧ n < 1000000000) → out.length + 22 * r.length ≤ 1000000 → Tot (keyL r out) fun _ => True
 | [], out, _, _ => ah trivial
 | n :: r, out, h, hl => by
  rw [List.length_cons] at hl
  have hn := h n (List.mem_cons_self ..)
  have h4 : (eI n).length ≤ 21 := Go.Lib.itoa_length_le n (by omega) (by omega)
  unfold keyL
  exact ar ⟨by omega, by omega⟩ (ar (by omega) (yv (fun m hm => h m (List.mem_cons_of_mem _ hm)) (by simp; omega)))
theorem keyM_tot {v : List Int} (h : ∀ n ∈ v, -1 ≤ n ∧ n < 1000000000) (hl : v.length ≤ 1000) : Tot (vH v) fun _ => True := by
 unfold vH
 exact ar (by omega) (yv h (by simp; omega))
def KG (n : Nat) (ks : List (Cls Va)) : Prop := ∀ k ∈ ks, Gd n k.set
theorem VK.rng {n : Nat} {ks : List (Cls Va)} {v : List Int} (h : VK ks v) (hk : KG n ks) : ∀ x ∈ v, -1 ≤ x ∧ x < n := by
 induction h with
 | nil => intro x hx; cases hx
 | cons h1 h2 _ ih =>
  intro x hx
  rcases List.mem_cons.1 hx with rfl | hx
  ·have := (hk _ (List.mem_cons_self ..)).len
   omega
  ·exact ih (fun k hk' => hk k (List.mem_cons_of_mem _ hk')) x hx
theorem VF.rng {L : Nat} {fs : List (Fld Va)} {v : List Int} (h : VF L fs v) : ∀ x ∈ v, x = -1 ∨ x = L := by
 induction h with
 | nil => intro x hx; cases hx
 | cons h1 _ ih =>
  intro x hx
  rcases List.mem_cons.1 hx with rfl | hx
  ·rcases h1 with h1 | h1
   ·exact .inl h1
   ·exact .inr h1.1
  ·exact ih x hx
theorem afZ_tot : ∀ {n i : Nat} {out : List Int}, i + n = out.length → Tot (afZ n i out) fun o => o = out.take i ++ List.replicate n (-1)
 | 0, i, out, h => ah (by simp at h; rw [h]; simp)
 | n + 1, i, out, h => by
  have hi : i < out.length := by omega
  have e1 : ((i : Int) + 1) = ((i + 1 : Nat) : Int) := by omega
  unfold afZ
  refine dT (by omega) (by omega) ?_
  rw [show ((i : Int)).toNat = i by omega, e1]
  refine (afZ_tot (n := n) (i := i + 1) (out := out.set i (-1)) (by rw [List.length_set]; omega)).mono fun o ho => ?_
  rw [ho, List.take_add_one, List.getElem?_set]
  simp [hi, List.take_set_of_le, List.replicate_succ]
theorem pS {n : Nat} {b i : Int} : ∀ {es : List Sv.Edge} {p q : List Int} {s : Int}, (∀ e ∈ es, 0 ≤ e.to ∧ e.to < n) → i = p.length → -1 ≤ s → s < n → Tot (afE b i es (p ++ s :: q)) fun o => ∃ t : Int, o = p ++ t :: q ∧ -1 ≤ t ∧ t < n
 | [], p, q, s, _, _, h1, h2 => ah ⟨s, rfl, h1, h2⟩
 | e :: r, p, q, s, he, hi, h1, h2 => by
  have h3 := he e (List.mem_cons_self ..)
  have hr := fun e' h' => he e' (List.mem_cons_of_mem _ h')
  unfold afE
  exact aq (fun _ => aq (fun _ => w6 hi (pS hr hi (by omega) h3.2)) fun _ => pS hr hi h1 h2) fun _ => pS hr hi h1 h2
theorem afK_tot {n : Nat} (hn : n < 1000000000) {b : Int} : ∀ {ks : List (Cls Va)} {a vp vq done rest : List Int} {i : Int}, KG n ks → VK ks a → i = vp.length → i = done.length → Tot (afK (vp ++ (a ++ vq)) b ks i (done ++ (List.replicate ks.length (-1) ++ rest))) fun o => ∃ a', o = done ++ (a' ++ rest) ∧ VK ks a'
 | [], a, vp, vq, done, rest, i, _, h, _, _ => ah ⟨[], rfl, .nil⟩
 | k :: ks, a, vp, vq, done, rest, i, hk, h, h1, h2 => by
  cases h with
  | cons s0 s1 h =>
   rename_i s v
   have hg := hk k (List.mem_cons_self ..)
   have hks : KG n ks := fun k' h' => hk k' (List.mem_cons_of_mem _ h')
   have step : ∀ t : Int, -1 ≤ t → t < k.set.length → Tot (afK (vp ++ ((s :: v) ++ vq)) b ks (i + 1) (done ++ t :: (List.replicate ks.length (-1) ++ rest))) fun o => ∃ a', o = done ++ (a' ++ rest) ∧ VK (k :: ks) a' := fun t t0 t1 => by
    have e1 : vp ++ ((s :: v) ++ vq) = (vp ++ [s]) ++ (v ++ vq) := by simp
    have e2 : done ++ t :: (List.replicate ks.length (-1) ++ rest) = (done ++ [t]) ++ (List.replicate ks.length (-1) ++ rest) := by simp
    rw [e1, e2]
    refine (afK_tot hn (ks := ks) (i := i + 1) hks h (by simp; omega) (by simp; omega)).mono fun o ⟨a', q1, q2⟩ => ⟨t :: a', by rw [q1]; simp, .cons t0 t1 q2⟩
   have e3 : vp ++ ((s :: v) ++ vq) = vp ++ s :: (v ++ vq) := by simp
   have e4 : done ++ (List.replicate (k :: ks).length (-1) ++ rest) = done ++ (-1) :: (List.replicate ks.length (-1) ++ rest) := by simp [List.replicate_succ]
   rw [e4]
   unfold afK
   rw [e3]
   refine iI h1 (aq (fun _ => ?_) fun hs => ?_)
   ·rw [← e3]
    exact step (-1) (by omega) (by omega)
   ·refine aP (by omega) s1 fun x hx hm => ar (by have := hg.row x hm; omega) ?_
    refine an (pS (n := k.set.length) (fun e he => ((hg.wf x hm).one e he).2) h2 (by omega) (by omega)) fun o ⟨t, q1, q2, q3⟩ => ?_
    rw [q1, ← e3]
    exact step t q2 q3
theorem afF_tot {b m : Int} {L : Nat} (hL : L ≤ 61) : ∀ {fs : List (Fld Va)} {a vp vq done : List Int} {i : Int}, (∀ f ∈ fs, f.label.length ≤ 60) → VF L fs a → m + i = vp.length → m + i = done.length → Tot (afF (vp ++ a) b m fs i (done ++ List.replicate fs.length (-1))) fun o => ∃ a', o = done ++ a' ∧ VF (L + 1) fs a'
 | [], a, vp, vq, done, i, _, h, _, _ => ah ⟨[], by simp, .nil⟩
 | f :: fs, a, vp, vq, done, i, hf, h, h1, h2 => by
  cases h with
  | cons s0 h =>
   rename_i s v
   have hl := hf f (List.mem_cons_self ..)
   have hfs : ∀ f ∈ fs, f.label.length ≤ 60 := fun f' h' => hf f' (List.mem_cons_of_mem _ h')
   have step : ∀ t : Int, (t = -1 ∨ t = (L + 1 : Nat) ∧ L + 1 ≤ f.label.length) → Tot (afF (vp ++ s :: v) b m fs (i + 1) (done ++ t :: List.replicate fs.length (-1))) fun o => ∃ a', o = done ++ a' ∧ VF (L + 1) (f :: fs) a' := fun t ht => by
    have e1 : vp ++ s :: v = (vp ++ [s]) ++ v := by simp
    have e2 : done ++ t :: List.replicate fs.length (-1) = (done ++ [t]) ++ List.replicate fs.length (-1) := by simp
    rw [e1, e2]
    refine (afF_tot hL (fs := fs) (vq := vq) (i := i + 1) hfs h (by simp; omega) (by simp; omega)).mono fun o ⟨a', q1, q2⟩ => ⟨t :: a', by rw [q1]; simp, .cons ht q2⟩
   have e4 : done ++ List.replicate (f :: fs).length (-1) = done ++ (-1) :: List.replicate fs.length (-1) := by simp [List.replicate_succ]
   rw [e4]
   unfold afF
   refine iI h1 (aq (fun hs => ar (by omega) (aq (fun hlt => ?_) fun _ => step (-1) (.inl rfl))) fun _ => step (-1) (.inl rfl))
   have hsL : s = L ∧ L ≤ f.label.length := by
    rcases s0 with g | g
    ·omega
    ·exact g
   refine aP hs hlt fun c hc _ => aq (fun _ => ar ⟨by omega, by omega⟩ (w6 h2 (step (s + 1) (.inr ⟨by omega, by omega⟩)))) fun _ => step (-1) (.inl rfl)
theorem VF.zero {L : Nat} {fs : List (Fld Va)} {v : List Int} (h : VF L fs v) (hf : ∀ f ∈ fs, f.label.length ≤ 60) (hL : 60 < L) : VF 0 fs v := by
 induction h with
 | nil => exact .nil
 | cons h1 _ ih =>
  have hl := hf _ (List.mem_cons_self ..)
  refine .cons (.inl ?_) (ih fun f h' => hf f (List.mem_cons_of_mem _ h'))
  rcases h1 with h1 | h1
  ·exact h1
  ·omega
structure SCk (n : Nat) (c : aI Va) : Prop where
 kl : c.aA.length ≤ 100
 fl : c.fields.length ≤ 100
 kg : KG n c.aA
 lab : ∀ f ∈ c.fields, f.label.length ≤ 60
theorem aftV_tot {n : Nat} (hn : n < 1000000000) {c : aI Va} (hc : SCk n c) {v : List Int} (h : VOk c v) {b : Int} : Tot (aftV c v b) (VOk c) := by
 obtain ⟨a, d, L, rfl, h1, h2, h3⟩ := h
 have l1 := h1.len
 have l2 := h3.len
 have g1 := hc.kl
 have g2 := hc.fl
 unfold aftV
 refine ar (by simp; omega) (an (afZ_tot (n := (a ++ d).length) (i := 0) (out := List.replicate (a ++ d).length 0) (by simp)) fun out ho => ar (by omega) ?_)
 have ho' : out = [] ++ (List.replicate c.aA.length (-1) ++ List.replicate c.fields.length (-1)) := by
  rw [ho, List.length_append, l1, l2]
  simp [List.replicate_append_replicate]
 rw [ho']
 refine an (afK_tot hn (ks := c.aA) (vp := []) (vq := d) (i := 0) hc.kg h1 rfl rfl) fun o ⟨a', q1, q2⟩ => ar (by omega) ?_
 rw [q1, List.nil_append]
 have l3 := q2.len
 refine (afF_tot h2 (fs := c.fields) (vp := a) (vq := []) (done := a') (i := 0) hc.lab h3 (by omega) (by omega)).mono fun o ⟨d', r1, r2⟩ => ?_
 rcases Nat.lt_or_ge L 61 with g | g
 ·exact ⟨a', d', L + 1, r1, q2, by omega, r2⟩
 ·exact ⟨a', d', 0, r1, q2, by omega, r2.zero hc.lab (by omega)⟩
end Go.Proofs.YtmjddpeookapaaaGreatDoor
