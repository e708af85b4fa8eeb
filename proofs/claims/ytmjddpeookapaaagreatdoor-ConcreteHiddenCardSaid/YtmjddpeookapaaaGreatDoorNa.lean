/- For ConcreteHidden: automata: the mirrors answer. -/
import Derived.Test.YtmjddpeookapaaaGreatDoorWE
set_option linter.unusedVariables false
set_option linter.unusedSimpArgs false
set_option linter.unusedSectionVars false
namespace Go.Proofs.YtmjddpeookapaaaGreatDoor
open Sv
def Tot {α : Type} (x : Option α) (P : α → Prop) : Prop := ∃ a, x = some a ∧ P a
section
variable {α β : Type} {P : α → Prop} {Q : β → Prop}
theorem Tot.mono {P' : α → Prop} {x : Option α} (h : Tot x P) (k : ∀ a, P a → P' a) : Tot x P' := by
 obtain ⟨a, e, ha⟩ := h
 exact ⟨a, e, k a ha⟩
theorem ah {a : α} (h : P a) : Tot (some a) P := ⟨a, rfl, h⟩
theorem an {x : Option α} {f : α → Option β} (h : Tot x P) (k : ∀ a, P a → Tot (f a) Q) : Tot (x.bind f) Q := by
 obtain ⟨a, rfl, ha⟩ := h
 exact k a ha
theorem ar {c : Prop} [Decidable c] {f : Unit → Option β} (h : c) (k : Tot (f ()) Q) : Tot ((grd c).bind f) Q := by
 unfold grd
 rw [if_pos h]
 exact k
theorem aP {l : List α} {i : Int} {f : α → Option β} (h0 : 0 ≤ i) (h1 : i < l.length) (k : ∀ x, l[i.toNat]? = some x → x ∈ l → Tot (f x) Q) : Tot ((atI l i).bind f) Q := by
 unfold atI
 have h2 : i.toNat < l.length := by omega
 rw [if_pos h0, List.getElem?_eq_getElem h2]
 exact k _ (List.getElem?_eq_getElem h2) (List.getElem_mem h2)
theorem dT {l : List α} {i : Int} {x : α} {f : List α → Option β} (h0 : 0 ≤ i) (h1 : i < l.length) (k : Tot (f (l.set i.toNat x)) Q) : Tot ((iL l i x).bind f) Q := by
 unfold iL
 rw [if_pos ⟨h0, h1⟩]
 exact k
theorem u4 {l : List α} {i : Int} {g : α → α} {f : List α → Option β} (h0 : 0 ≤ i) (h1 : i < l.length) (k : ∀ x, l[i.toNat]? = some x → x ∈ l → Tot (f (l.set i.toNat (g x))) Q) : Tot ((nP l i g).bind f) Q := by
 unfold nP
 rw [Option.bind_assoc]
 exact aP h0 h1 k
theorem u5 {m : Nat} {l : List α} {i : Int} {f : α → Option β} (h0 : 0 ≤ i) (hm : i < m) (hl : l.length = m) (k : ∀ x, l[i.toNat]? = some x → Tot (f x) Q) : Tot ((atA m l i).bind f) Q := by
 unfold atA
 have h2 : i.toNat < l.length := by omega
 rw [if_pos ⟨h0, hm⟩, List.getElem?_eq_getElem h2]
 exact k _ (List.getElem?_eq_getElem h2)
theorem fC {m : Nat} {l : List α} {i : Int} {x : α} {f : List α → Option β} (h0 : 0 ≤ i) (hm : i < m) (hl : l.length = m) (k : Tot (f (l.set i.toNat x)) Q) : Tot ((ph m l i x).bind f) Q := by
 unfold ph
 rw [if_pos ⟨h0, hm, by omega⟩]
 exact k
theorem aZ {l : List α} {x : α} {f : List α → Option β} (h : l.length < 1000000000) (k : Tot (f (l ++ [x])) Q) : Tot ((push l x).bind f) Q := by
 unfold push
 rw [if_pos h]
 exact k
theorem kp {l r : List α} {f : List α → Option β} (h : l.length + r.length ≤ 1000000000) (k : Tot (f (l ++ r)) Q) : Tot ((jF l r).bind f) Q := by
 unfold jF
 rw [if_pos h]
 exact k
theorem nz {l : List α} {x : α} {Q : List α → Prop} (h : l.length < 1000000000) (k : Q (l ++ [x])) : Tot (push l x) Q := by
 unfold push
 rw [if_pos h]
 exact ah k
theorem aq {c : Prop} [Decidable c] {a b : Option β} (hp : c → Tot a Q) (hn : ¬ c → Tot b Q) : Tot (if c then a else b) Q := by
 split <;> rename_i h
 ·exact hp h
 ·exact hn h
end
theorem ik : ∀ {n : Nat} {l : List Nat}, l.Nodup → (∀ x ∈ l, x < n) → l.length ≤ n
 | 0, [], _, _ => Nat.le_refl _
 | 0, x :: l, _, h => absurd (h x (List.mem_cons_self ..)) (by omega)
 | n + 1, l, h, hb => by
  have h1 := ik (n := n) (l := l.erase n) (h.erase n) fun x hx => by
   have := (h.mem_erase_iff).1 hx
   have := hb x this.2
   omega
  rw [List.length_erase] at h1
  split at h1 <;> omega
theorem pigeon {m n : Nat} (f : Nat → Nat) (hf : ∀ i, i < m → f i < n) (inj : ∀ i j, i < m → j < m → f i = f j → i = j) : m ≤ n := by
 have h := ik (n := n) (l := (List.range m).map f) ?_ ?_
 ·rwa [List.length_map, List.length_range] at h
 ·rw [List.nodup_iff_pairwise_ne, List.pairwise_map]
  refine (List.nodup_iff_pairwise_ne.1 (List.nodup_range (n := m))).imp_of_mem fun {a b} ha hb hab e => hab (inj a b (List.mem_range.1 ha) (List.mem_range.1 hb) e)
 ·intro x hx
  obtain ⟨i, hi, rfl⟩ := List.mem_map.1 hx
  exact hf i (List.mem_range.1 hi)
def EB (e : Sv.Edge) : Prop := 0 ≤ e.lo ∧ e.lo < 256 ∧ 0 ≤ e.hi ∧ e.hi < 256
structure AB (n : Nat) (l : List Stt) : Prop where
 len : l.length ≤ n
 row : ∀ s ∈ l, s.aL.length ≤ 256
 eb : ∀ s ∈ l, ∀ e ∈ s.aL, EB e
theorem AB.mono {n m : Nat} {l : List Stt} (h : AB n l) (hn : n ≤ m) : AB m l := ⟨Nat.le_trans h.len hn, h.row, h.eb⟩
theorem AB.nil (n : Nat) : AB n [] := ⟨Nat.zero_le _, fun s h => (by cases h), fun s h => (by cases h)⟩
structure EW (n : Nat) (es : List Sv.Edge) : Prop where
 one : ∀ e ∈ es, e.lo ≤ e.hi ∧ 0 ≤ e.to ∧ e.to < n
 adj : ∀ (i : Nat) (x y : Sv.Edge), es[i]? = some x → es[i + 1]? = some y → x.hi < y.lo
def WF (l : List Stt) : Prop := ∀ s ∈ l, EW l.length s.aL
theorem wfE_tot {n : Nat} {all : List Sv.Edge} : ∀ {r pre : List Sv.Edge}, all = pre ++ r → Tot (wfE n all r pre.length) fun c => c = .ret false ∨ c = .nxt () ∧ (∀ e ∈ r, e.lo ≤ e.hi ∧ 0 ≤ e.to ∧ e.to < n) ∧ ∀ (i : Nat) (x y : Sv.Edge), pre.length ≤ i + 1 → all[i]? = some x → all[i + 1]? = some y → x.hi < y.lo
 | [], pre, h => ah (.inr ⟨rfl, fun e h => (by cases h), fun i x y h1 h2 h3 => by
  have h4 := (List.getElem?_eq_some_iff.1 h3).1
  rw [h, List.append_nil] at h4
  omega⟩)
 | e :: r, pre, h => by
  unfold wfE
  refine aq (fun _ => ah (.inl rfl)) fun h1 => aq (fun _ => ah (.inl rfl)) fun h2 => aq (fun _ => ah (.inl rfl)) fun h3 => ?_
  have hl : (pre ++ [e]).length = pre.length + 1 := by simp
  have ih := wfE_tot (n := n) (all := all) (r := r) (pre := pre ++ [e]) (by rw [h]; simp)
  rw [hl] at ih
  have he : all[pre.length]? = some e := by rw [h]; simp
  have fin : ∀ c : Ctl Bool Unit, (c = .ret false ∨ c = .nxt () ∧ (∀ e ∈ r, e.lo ≤ e.hi ∧ 0 ≤ e.to ∧ e.to < n) ∧ ∀ (i : Nat) (x y : Sv.Edge), pre.length + 1 ≤ i + 1 → all[i]? = some x → all[i + 1]? = some y → x.hi < y.lo) → (∀ x y : Sv.Edge, 0 < pre.length → all[pre.length - 1]? = some x → all[pre.length]? = some y → x.hi < y.lo) →
    c = .ret false ∨ c = .nxt () ∧ (∀ e' ∈ e :: r, e'.lo ≤ e'.hi ∧ 0 ≤ e'.to ∧ e'.to < n) ∧ ∀ (i : Nat) (x y : Sv.Edge), pre.length ≤ i + 1 → all[i]? = some x → all[i + 1]? = some y → x.hi < y.lo := fun c hc hx => by
   rcases hc with hc | ⟨hc, g1, g2⟩
   ·exact .inl hc
   refine .inr ⟨hc, fun e' he' => ?_, fun i x y g3 g4 g5 => ?_⟩
   ·rcases List.mem_cons.1 he' with rfl | h'
    ·exact ⟨by omega, by omega, by omega⟩
    ·exact g1 e' h'
   ·by_cases g : pre.length = i + 1
    ·exact hx x y (by omega) (by rw [g]; exact g4) (by rw [g]; exact g5)
    ·exact g2 i x y (by omega) g4 g5
  refine aq (fun h4 => ?_) fun h4 => ?_
  ·refine aP (by omega) (by rw [h]; simp; omega) fun p hp _ => aq (fun _ => ah (.inl rfl)) fun h5 => ?_
   refine ih.mono fun c hc => fin c hc fun x y g1 g2 g3 => ?_
   rw [show ((pre.length : Int) - 1).toNat = pre.length - 1 by omega, g2] at hp
   rw [g3] at he
   cases hp
   cases he
   omega
  ·exact ih.mono fun c hc => fin c hc fun x y g1 => by omega
theorem wfL_tot {n m : Nat} : ∀ {l : List Stt}, AB m l → Tot (wfL n l) fun b => b = true → ∀ s ∈ l, EW n s.aL
 | [], _ => ah fun _ s h => (by cases h)
 | s :: r, h => by
  unfold wfL
  have h1 := h.row s (List.mem_cons_self ..)
  refine ar (by omega) (an (wfE_tot (pre := []) rfl) fun c hc => ?_)
  rcases hc with rfl | ⟨rfl, g1, g2⟩
  ·exact ah fun hb => by cases hb
  ·refine (wfL_tot (n := n) (l := r) ⟨Nat.le_trans (Nat.le_succ _) h.len, fun s hs => h.row s (List.mem_cons_of_mem _ hs), fun s hs => h.eb s (List.mem_cons_of_mem _ hs)⟩).mono fun b hb e t ht => ?_
   rcases List.mem_cons.1 ht with rfl | h'
   ·exact ⟨g1, fun i x y => g2 i x y (Nat.zero_le _)⟩
   ·exact hb e t h'
theorem wf_tot {l : List Stt} {n : Nat} (h : AB n l) (hn : n ≤ 1000000000) : Tot (wfM l) fun b => b = true → WF l := by
 unfold wfM
 have := h.len
 exact ar (by omega) (wfL_tot h)
def digV (l : List UInt8) : Nat := l.foldl (fun a b => a * 10 + (b.toNat - 48)) 0
theorem digV_app (l : List UInt8) (b : UInt8) : digV (l ++ [b]) = digV l * 10 + (b.toNat - 48) := by simp [digV]
theorem uu {u : Nat} (h : u < 10) : (UInt8.ofNat (48 + u)).toNat = 48 + u := by
 rw [UInt8.toNat_ofNat']
 omega
theorem gy (u : Nat) : digV (Go.Lib.decDigits u) = u ∧ ∀ b ∈ Go.Lib.decDigits u, 48 ≤ b.toNat := by
 induction u using Nat.strongRecOn with
 | ind u ih =>
  rw [Go.Lib.decDigits]
  split
  ·rename_i h
   have := uu h
   refine ⟨by show 0 * 10 + ((UInt8.ofNat (48 + u)).toNat - 48) = u; rw [this]; omega, fun b hb => ?_⟩
   rw [List.mem_singleton.1 hb, this]
   omega
  ·rename_i h
   obtain ⟨h1, h2⟩ := ih (u / 10) (by omega)
   have := uu (u := u % 10) (by omega)
   refine ⟨?_, fun b hb => ?_⟩
   ·rw [digV_app, h1, this]; omega
   ·rcases List.mem_append.1 hb with hb | hb
    ·exact h2 b hb
    ·rw [List.mem_singleton.1 hb, this]; omega
theorem rq (n : Nat) : eI n = Go.Lib.decDigits n := Go.Lib.itoa_nonneg n
theorem kP (n : Nat) : ∀ b ∈ eI n, b ≠ 44 := fun b hb e => by
 rw [rq] at hb
 have := (gy n).2 b hb
 subst e
 exact absurd this (by decide)
theorem mK {m n : Nat} (h : eI m = eI n) : m = n := by
 rw [rq, rq] at h
 rw [← (gy m).1, ← (gy n).1, h]
def Com (r : List UInt8) : Prop := r = [] ∨ ∃ t, r = 44 :: t
theorem vd : ∀ {a b r s : List UInt8}, (∀ x ∈ a, x ≠ 44) → (∀ x ∈ b, x ≠ 44) → Com r → Com s → a ++ r = b ++ s → a = b ∧ r = s
 | [], [], r, s, _, _, _, _, h => ⟨rfl, h⟩
 | [], y :: b, r, s, _, hb, hr, hs, h => by
  rcases hr with rfl | ⟨t, rfl⟩
  ·cases h
  ·injection h with h1 _
   exact absurd h1.symm (hb y (List.mem_cons_self ..))
 | x :: a, [], r, s, ha, _, hr, hs, h => by
  rcases hs with rfl | ⟨t, rfl⟩
  ·cases h
  ·injection h with h1 _
   exact absurd h1 (ha x (List.mem_cons_self ..))
 | x :: a, y :: b, r, s, ha, hb, hr, hs, h => by
  injection h with h1 h2
  obtain ⟨h3, h4⟩ := vd (fun z hz => ha z (List.mem_cons_of_mem _ hz)) (fun z hz => hb z (List.mem_cons_of_mem _ hz)) hr hs h2
  exact ⟨by rw [h1, h3], h4⟩
def ve (cls : List Nat) : List Int → List UInt8
 | [] => []
 | to :: r => 44 :: eI ((cls.getD to.toNat 0 : Nat) : Int) ++ ve cls r
theorem mq (cls : List Nat) (row : List Int) : Com (ve cls row) := by
 cases row with
 | nil => exact .inl rfl
 | cons to r => exact .inr ⟨_, rfl⟩
theorem xd (cls : List Nat) : ∀ {r s : List Int}, r.length = s.length → ve cls r = ve cls s → ∀ (i : Nat) (x y : Int), r[i]? = some x → s[i]? = some y → cls.getD x.toNat 0 = cls.getD y.toNat 0
 | [], _, _, _, i, x, y, h, _ => by cases h
 | a :: r, [], h, _, i, x, y, _, h2 => by cases h2
 | a :: r, b :: s, hl, h, i, x, y, h1, h2 => by
  unfold ve at h
  injection h with _ h
  obtain ⟨h3, h4⟩ := vd (kP _) (kP _) (mq _ _) (mq _ _) h
  cases i with
  | zero =>
   cases h1
   cases h2
   exact mK h3
  | succ i => exact xd cls (by simpa using hl) h4 i x y h1 h2
theorem xe {cls : List Nat} (hc : ∀ c ∈ cls, c < 1000000000) : ∀ {row : List Int} {b : List UInt8}, (∀ t ∈ row, 0 ≤ t ∧ t < cls.length) → b.length + row.length * 22 ≤ 1000000 → Tot (sigL (cls.map fun (n : Nat) => (n : Int)) row b) fun x => x = b ++ ve cls row
 | [], b, _, _ => ah (by simp [ve])
 | to :: r, b, h, hb => by
  unfold sigL
  obtain ⟨h0, h1⟩ := h to (List.mem_cons_self ..)
  refine aP h0 (by rw [List.length_map]; exact h1) fun c hc1 _ => ?_
  have h2 : to.toNat < cls.length := by omega
  rw [List.getElem?_map, List.getElem?_eq_getElem h2] at hc1
  simp only [Option.map_some, Option.some.injEq] at hc1
  have h3 := hc _ (List.getElem_mem h2)
  have h4 : (eI c).length ≤ 21 := Go.Lib.itoa_length_le c (by omega) (by omega)
  rw [List.length_cons] at hb
  refine ar ⟨by omega, by omega⟩ (ar (by omega) ?_)
  refine (xe hc (row := r) (fun t ht => h t (List.mem_cons_of_mem _ ht)) (by simp; omega)).mono fun x hx => ?_
  rw [hx, ve, List.getD_eq_getElem?_getD, List.getElem?_eq_getElem h2, ← hc1]
  simp
structure Tb (n w : Nat) (next : List (List Int)) : Prop where
 len : next.length = n
 row : ∀ r ∈ next, r.length = w
 rng : ∀ r ∈ next, ∀ t ∈ r, 0 ≤ t ∧ t < n
abbrev NI (cls : List Nat) : List Int := cls.map fun (n : Nat) => (n : Int)
def nC (cls : List Nat) (next : List (List Int)) (s : Nat) : List UInt8 := eI ((cls.getD s 0 : Nat) : Int) ++ ve cls (next.getD s [])
theorem cx {α : Type} {l : List α} {i : Nat} {d x : α} (h : l[i]? = some x) : l.getD i d = x := by rw [List.getD_eq_getElem?_getD, h]; rfl
theorem sigM_tot {n w : Nat} {cls : List Nat} {next : List (List Int)} (hT : Tb n w next) (hl : cls.length = n) (hc : ∀ c ∈ cls, c < 1000000000) (hw : w ≤ 256) {s : Nat} (hs : s < n) : Tot (sigM (NI cls) next s) fun x => x = nC cls next s := by
 unfold sigM
 have h1 : s < cls.length := by omega
 have h2 : s < next.length := by rw [hT.len]; exact hs
 refine aP (by omega) (by rw [List.length_map]; omega) fun c hc1 _ => ?_
 rw [show ((s : Int)).toNat = s by omega, List.getElem?_map, List.getElem?_eq_getElem h1] at hc1
 simp only [Option.map_some, Option.some.injEq] at hc1
 have h3 := hc _ (List.getElem_mem h1)
 refine ar ⟨by omega, by omega⟩ (aP (by omega) (by omega) fun row hr hm => ?_)
 have h4 := hT.row row hm
 have h5 : (eI c).length ≤ 21 := Go.Lib.itoa_length_le c (by omega) (by omega)
 refine ar (by omega) ((xe hc (fun t ht => by rw [hl]; exact hT.rng row hm t ht) (by omega)).mono fun x hx => ?_)
 rw [show ((s : Int)).toNat = s by omega] at hr
 rw [hx, nC, cx hr, cx (List.getElem?_eq_getElem h1), hc1]
theorem xf {n w : Nat} {cls : List Nat} {next : List (List Int)} (hT : Tb n w next) {s t : Nat} (hs : s < n) (ht : t < n) (h : nC cls next s = nC cls next t) : cls.getD s 0 = cls.getD t 0 ∧ ∀ (i : Nat) (x y : Int), (next.getD s [])[i]? = some x → (next.getD t [])[i]? = some y → cls.getD x.toNat 0 = cls.getD y.toNat 0 := by
 unfold nC at h
 obtain ⟨h1, h2⟩ := vd (kP _) (kP _) (mq _ _) (mq _ _) h
 have g : ∀ s, s < n → (next.getD s []).length = w := fun s hs => by
  have h3 : s < next.length := by rw [hT.len]; exact hs
  rw [cx (List.getElem?_eq_getElem h3)]
  exact hT.row _ (List.getElem_mem h3)
 exact ⟨mK h1, xd cls (by rw [g s hs, g t ht]) h2⟩
structure Sn (seen : List (List UInt8 × Int)) : Prop where
 nd : (seen.map (·.1)).Nodup
 num : ∀ (j : Nat) (p : List UInt8 × Int), seen[j]? = some p → p.2 = (j : Int)
theorem ft : ∀ {κ α : Type} [DecidableEq κ] {seen : List (κ × α)} {x : κ} {k : α}, cn x seen = some k → (x, k) ∈ seen
 | _, _, _, p :: r, x, k, h => by
  unfold cn at h
  split at h
  ·rename_i e
   cases h
   rw [← e]
   exact List.mem_cons_self ..
  ·exact List.mem_cons_of_mem _ (ft h)
theorem n4 : ∀ {κ α : Type} [DecidableEq κ] {seen : List (κ × α)} {x : κ}, cn x seen = none → ∀ p ∈ seen, p.1 ≠ x
 | _, _, _, q :: r, x, h, p, hp => by
  unfold cn at h
  split at h
  ·cases h
  ·rename_i e
   rcases List.mem_cons.1 hp with rfl | hp
   ·exact e
   ·exact n4 h p hp
theorem rE : ∀ {κ α : Type} [DecidableEq κ] {seen : List (κ × α)} {x y : κ} {k v : α}, cn x seen = some k → cn x (seen ++ [(y, v)]) = some k
 | _, _, _, p :: r, x, y, k, v, h => by
  unfold cn at h
  rw [List.cons_append]
  unfold cn
  split at h
  ·rename_i e; rw [if_pos e]; exact h
  ·rename_i e; rw [if_neg e]; exact rE h
theorem mT : ∀ {κ α : Type} [DecidableEq κ] {seen : List (κ × α)} {x : κ} {v : α}, cn x seen = none → cn x (seen ++ [(x, v)]) = some v
 | _, _, _, [], x, v, _ => by simp [cn]
 | _, _, _, p :: r, x, v, h => by
  unfold cn at h
  rw [List.cons_append]
  unfold cn
  split at h
  ·cases h
  ·rename_i e; rw [if_neg e]; exact mT h
structure RI (cls : List Nat) (next : List (List Int)) (n k : Nat) (seen : List (List UInt8 × Int)) (c : List Nat) : Prop where
 len : c.length = n
 sn : Sn seen
 le : seen.length ≤ k
 fnd : ∀ t, t < k → cn (nC cls next t) seen = some ((c.getD t 0 : Nat) : Int)
 att : ∀ p ∈ seen, ∃ t, t < k ∧ p.1 = nC cls next t
theorem getD_set {l : List Nat} {i j v : Nat} (hi : i < l.length) : (l.set i v).getD j 0 = if j = i then v else l.getD j 0 := by
 rw [List.getD_eq_getElem?_getD, List.getElem?_set]
 by_cases h : j = i
 ·subst h; simp [hi]
 ·have : i ≠ j := fun e => h e.symm
  simp [h, this, List.getD_eq_getElem?_getD]
theorem NI_set (c : List Nat) (i v : Nat) : (NI c).set i (v : Int) = NI (c.set i v) := by
 show (List.map _ c).set i _ = List.map _ _
 rw [List.map_set]
theorem qL {n w : Nat} {cls : List Nat} {next : List (List Int)} (hT : Tb n w next) (hn : n ≤ 1000000000) (hl : cls.length = n) (hc : ∀ c ∈ cls, c < 1000000000) (hw : w ≤ 256) :
  ∀ {r : List (List Int)} {k : Nat} {seen : List (List UInt8 × Int)} {c : List Nat}, next.drop k = r → k ≤ n → RI cls next n k seen c → Tot (xK (NI cls) next r k seen (NI c)) fun p => ∃ c', p.2 = NI c' ∧ RI cls next n n p.1 c'
 | [], k, seen, c, hr, hk, h => by
  have : next.length ≤ k := by
   rw [List.drop_eq_nil_iff] at hr; exact hr
  rw [hT.len] at this
  have e : k = n := by omega
  subst e
  exact ah ⟨c, rfl, h⟩
 | row :: r, k, seen, c, hr, hk, h => by
  have hkn : k < n := by
   rcases Nat.lt_or_ge k n with g | g
   ·exact g
   ·rw [List.drop_eq_nil_of_le (by rw [hT.len]; exact g)] at hr; cases hr
  have hr' : next.drop (k + 1) = r := by
   rw [← List.drop_drop, hr]; rfl
  unfold xK
  refine an (sigM_tot hT hl hc hw hkn) fun x hx => ?_
  subst hx
  have hlen : (k : Int) < ((NI c).length : Int) := by rw [List.length_map, h.len]; omega
  have key : ∀ (v : Nat) (seen' : List (List UInt8 × Int)), (∀ t, t < k → cn (nC cls next t) seen' = cn (nC cls next t) seen) → cn (nC cls next k) seen' = some ((v : Nat) : Int) → Sn seen' → seen'.length ≤ k + 1 → (∀ p ∈ seen', ∃ t, t < k + 1 ∧ p.1 = nC cls next t) → RI cls next n (k + 1) seen' (c.set k v) := fun v seen' h1 h2 h3 h4 h5 =>
   ⟨by rw [List.length_set, h.len], h3, h4, fun t ht => by
    rw [getD_set (by rw [h.len]; exact hkn)]
    by_cases e : t = k
    ·rw [if_pos e, e]; exact h2
    ·rw [if_neg e, h1 t (by omega)]; exact h.fnd t (by omega), h5⟩
  split
  ·rename_i v hv
   obtain ⟨j, hj⟩ := List.mem_iff_getElem?.1 (ft hv)
   have hvj := h.sn.num j _ hj
   simp only at hvj
   subst hvj
   refine dT (by omega) hlen ?_
   rw [show ((k : Int)).toNat = k by omega, NI_set]
   exact qL hT hn hl hc hw hr' hkn (key j seen (fun _ _ => rfl) hv h.sn (by have := h.le; omega) fun p hp => by
    obtain ⟨t, h1, h2⟩ := h.att p hp
    exact ⟨t, by omega, h2⟩)
  ·rename_i hv
   refine dT (by omega) hlen ?_
   rw [show ((k : Int)).toNat = k by omega, NI_set]
   refine qL hT hn hl hc hw hr' hkn (key seen.length _ (fun t ht => ?_) (mT hv) ⟨?_, fun j p hj => ?_⟩ (by rw [List.length_append, List.length_singleton]; have := h.le; omega) fun p hp => ?_)
   ·rw [h.fnd t ht]; exact rE (h.fnd t ht)
   ·rw [List.map_append, List.nodup_append]
    refine ⟨h.sn.nd, by simp, fun a ha b hb => ?_⟩
    obtain ⟨p, hp, rfl⟩ := List.mem_map.1 ha
    simp only [List.map_cons, List.map_nil, List.mem_singleton] at hb
    subst hb
    exact n4 hv p hp
   ·rcases Nat.lt_trichotomy j seen.length with g | g | g
    ·rw [List.getElem?_append_left g] at hj; exact h.sn.num j p hj
    ·subst g
     rw [List.getElem?_append_right (Nat.le_refl _), Nat.sub_self] at hj
     cases hj
     rfl
    ·rw [List.getElem?_append_right (by omega), show j - seen.length = (j - seen.length - 1) + 1 by omega] at hj; cases hj
   ·rcases List.mem_append.1 hp with hp | hp
    ·obtain ⟨t, h1, h2⟩ := h.att p hp
     exact ⟨t, by omega, h2⟩
    ·rw [List.mem_singleton.1 hp]
     exact ⟨k, by omega, rfl⟩
structure Pt (n m : Nat) (c : List Nat) : Prop where
 len : c.length = n
 le : m ≤ n
 lt : ∀ s, s < n → c.getD s 0 < m
 att : ∀ j, j < m → ∃ s, s < n ∧ c.getD s 0 = j
theorem Sn.key {seen : List (List UInt8 × Int)} (h : Sn seen) {x y : List UInt8} {k : Int} (h1 : (x, k) ∈ seen) (h2 : (y, k) ∈ seen) : x = y := by
 obtain ⟨i, hi⟩ := List.mem_iff_getElem?.1 h1
 obtain ⟨j, hj⟩ := List.mem_iff_getElem?.1 h2
 have e1 := h.num i _ hi
 have e2 := h.num j _ hj
 simp only at e1 e2
 have : i = j := by omega
 subst this
 rw [hi] at hj
 cases hj
 rfl
theorem RI.same {cls : List Nat} {next : List (List Int)} {n : Nat} {seen : List (List UInt8 × Int)} {c : List Nat} (h : RI cls next n n seen c) {s t : Nat} (hs : s < n) (ht : t < n) (e : c.getD s 0 = c.getD t 0) : nC cls next s = nC cls next t := by
 have h1 := ft (h.fnd s hs)
 have h2 := ft (h.fnd t ht)
 rw [← e] at h2
 exact h.sn.key h1 h2
theorem RI.pt {cls : List Nat} {next : List (List Int)} {n : Nat} {seen : List (List UInt8 × Int)} {c : List Nat} (h : RI cls next n n seen c) : Pt n seen.length c := by
 refine ⟨h.len, h.le, fun s hs => ?_, fun j hj => ?_⟩
 ·obtain ⟨i, hi⟩ := List.mem_iff_getElem?.1 (ft (h.fnd s hs))
  have e := h.sn.num i _ hi
  have := (List.getElem?_eq_some_iff.1 hi).1
  simp only at e
  omega
 ·have hp := List.getElem?_eq_getElem hj
  obtain ⟨t, h1, h2⟩ := h.att _ (List.getElem_mem hj)
  refine ⟨t, h1, ?_⟩
  have h3 := ft (h.fnd t h1)
  obtain ⟨i, hi⟩ := List.mem_iff_getElem?.1 h3
  have e := h.sn.num i _ hi
  simp only at e
  have hi' := (List.getElem?_eq_some_iff.1 hi).1
  have hnd := h.sn.nd
  have e3 : (seen.map (·.1))[i]? = (seen.map (·.1))[j]? := by
   rw [List.getElem?_map, List.getElem?_map, hi, hp]
   simp [h2]
  have := (List.getElem?_inj (by rw [List.length_map]; exact hi') hnd).1 e3
  omega
theorem surj_inj {m : Nat} {G : Nat → Nat} (surj : ∀ i, i < m → ∃ j, j < m ∧ G j = i) {a b : Nat} (ha : a < m) (hb : b < m) (hG : G a < m) (e : G a = G b) : a = b := by
 have hH : ∃ H : Nat → Nat, ∀ i, i < m → H i < m ∧ G (H i) = i := ⟨fun i => if h : i < m then (surj i h).choose else 0, fun i h => by
  simp only [h, dif_pos]
  exact (surj i h).choose_spec⟩
 obtain ⟨H, hH⟩ := hH
 rcases Nat.decEq a b with hne | hne
 ·exfalso
  have hd : ∃ d, d < m ∧ G d = G a ∧ d ≠ H (G a) := by
   rcases Nat.decEq a (H (G a)) with h | h
   ·exact ⟨a, ha, rfl, h⟩
   ·exact ⟨b, hb, e.symm, fun h' => hne (h.trans h'.symm)⟩
  obtain ⟨d, hd1, hd2, hd3⟩ := hd
  have := pigeon (m := m + 1) (n := m) (fun i => if i < m then H i else d) (fun i hi => by
   show (if i < m then H i else d) < m
   split
   ·rename_i h; exact (hH i h).1
   ·exact hd1) fun i j hi hj hij => by
   change (if i < m then H i else d) = (if j < m then H j else d) at hij
   split at hij <;> split at hij <;> rename_i h1 h2
   ·rw [← (hH i h1).2, ← (hH j h2).2, hij]
   ·exfalso
    apply hd3
    rw [← hij, ← hd2, ← hij, (hH i h1).2]
   ·exfalso
    apply hd3
    rw [hij, ← hd2, hij, (hH j h2).2]
   ·omega
  omega
 ·exact hne
def Stab (n : Nat) (next : List (List Int)) (c : List Nat) : Prop := ∀ s t, s < n → t < n → c.getD s 0 = c.getD t 0 → ∀ (i : Nat) (x y : Int), (next.getD s [])[i]? = some x → (next.getD t [])[i]? = some y → c.getD x.toNat 0 = c.getD y.toNat 0
theorem xL {n w : Nat} {next : List (List Int)} (hT : Tb n w next) (hn0 : 0 < n) (hn : n < 1000000000) (hw : w ≤ 256) {A : Nat → Nat → Prop} :
  ∀ {f : Nat} {cls : List Nat} {many : Nat}, cls.length = n → (∀ c ∈ cls, c < 1000000000) → (∀ s t, s < n → t < n → cls.getD s 0 = cls.getD t 0 → A s t) → (many = 0 ∨ Pt n many cls) → many ≤ n → n < f + many → Tot (refF next f (NI cls) many) fun r => ∃ c m, r = NI c ∧ Pt n m c ∧ Stab n next c ∧ ∀ s t, s < n → t < n → c.getD s 0 = c.getD t 0 → A s t
 | 0, cls, many, _, _, _, _, h1, h2 => by omega
 | f + 1, cls, many, hl, hc, hA, hp, hmn, hf => by
  unfold refF
  refine ar (by rw [hT.len]; exact hn) (ar (by rw [hT.len]; omega) ?_)
  have h0 : RI cls next n 0 [] (List.replicate n 0) := ⟨by simp, ⟨by simp, fun j p h => by cases h⟩, Nat.le_refl _, fun t ht => by omega, fun p hp => by cases hp⟩
  have e0 : List.replicate next.length (0 : Int) = NI (List.replicate n 0) := by rw [hT.len]; simp [NI]
  rw [e0]
  refine an (qL hT (by omega) hl hc hw (r := next) (k := 0) rfl (Nat.zero_le _) h0) fun p hp' => ?_
  obtain ⟨seen, nx⟩ := p
  obtain ⟨c, rfl, hR⟩ := hp'
  simp only at hR ⊢
  have hpt := hR.pt
  have hin : ∀ s t, s < n → t < n → c.getD s 0 = c.getD t 0 → cls.getD s 0 = cls.getD t 0 := fun s t hs ht e => (xf hT hs ht (hR.same hs ht e)).1
  have hA' : ∀ s t, s < n → t < n → c.getD s 0 = c.getD t 0 → A s t := fun s t hs ht e => hA s t hs ht (hin s t hs ht e)
  have hle : many ≤ seen.length := by
   rcases hp with rfl | hp
   ·exact Nat.zero_le _
   ·have hr : ∃ f : Nat → Nat, ∀ i, i < many → f i < n ∧ cls.getD (f i) 0 = i := ⟨fun i => if h : i < many then (hp.att i h).choose else 0, fun i h => by
     simp only [h, dif_pos]
     exact (hp.att i h).choose_spec⟩
    obtain ⟨r, hr⟩ := hr
    exact pigeon (fun i => c.getD (r i) 0) (fun i hi => hpt.lt _ (hr i hi).1) fun i j hi hj e => by
     have := hin _ _ (hr i hi).1 (hr j hj).1 e
     rw [(hr i hi).2, (hr j hj).2] at this
     exact this
  have hpos : 0 < seen.length := Nat.lt_of_le_of_lt (Nat.zero_le _) (hpt.lt 0 hn0)
  refine aq (fun hm => ah ⟨c, seen.length, rfl, hpt, ?_, hA'⟩) fun hm => ?_
  ·have hm' : seen.length = many := by omega
   have hp' : Pt n many cls := by
    rcases hp with h | h
    ·omega
    ·exact h
   rw [← hm'] at hp'
   have hr : ∃ f : Nat → Nat, ∀ i, i < seen.length → f i < n ∧ c.getD (f i) 0 = i := ⟨fun i => if h : i < seen.length then (hpt.att i h).choose else 0, fun i h => by
    simp only [h, dif_pos]
    exact (hpt.att i h).choose_spec⟩
   obtain ⟨r, hr⟩ := hr
   have hG : ∀ s, s < n → cls.getD s 0 = cls.getD (r (c.getD s 0)) 0 := fun s hs => hin _ _ hs (hr _ (hpt.lt s hs)).1 (hr _ (hpt.lt s hs)).2.symm
   have hback : ∀ s t, s < n → t < n → cls.getD s 0 = cls.getD t 0 → c.getD s 0 = c.getD t 0 := fun s t hs ht e => by
    refine surj_inj (m := seen.length) (G := fun j => cls.getD (r j) 0) (fun i hi => ?_) (hpt.lt s hs) (hpt.lt t ht) ?_ ?_
    ·obtain ⟨u, hu, hu2⟩ := hp'.att i hi
     exact ⟨c.getD u 0, hpt.lt u hu, by show cls.getD (r (c.getD u 0)) 0 = i; rw [← hG u hu, hu2]⟩
    ·show cls.getD (r (c.getD s 0)) 0 < _
     rw [← hG s hs]
     exact hp'.lt s hs
    ·show cls.getD (r (c.getD s 0)) 0 = cls.getD (r (c.getD t 0)) 0
     rw [← hG s hs, ← hG t ht, e]
   intro s t hs ht e i x y hx hy
   have hb : ∀ s, s < n → ∀ (i : Nat) (x : Int), (next.getD s [])[i]? = some x → x.toNat < n := fun s hs i x hx => by
    have h3 : s < next.length := by rw [hT.len]; exact hs
    rw [cx (List.getElem?_eq_getElem h3)] at hx
    have := hT.rng _ (List.getElem_mem h3) x (List.mem_of_getElem? hx)
    omega
   exact hback _ _ (hb s hs i x hx) (hb t ht i y hy) ((xf hT hs ht (hR.same hs ht e)).2 i x y hx hy)
  ·exact xL hT hn0 hn hw hpt.len (fun x hx => by
    obtain ⟨i, hi⟩ := List.mem_iff_getElem?.1 hx
    have h1 := (List.getElem?_eq_some_iff.1 hi).1
    have := hpt.lt i (by rw [← hpt.len]; exact h1)
    rw [cx hi] at this
    have := hR.le
    omega) hA' (.inr hpt) hR.le (by omega)
theorem qq {a : List Bool} {j : Nat} (hj : j < a.length) (i : Nat) : (a.set j true)[i]? = some true ↔ a[i]? = some true ∨ i = j := by
 rw [List.getElem?_set]
 by_cases h : j = i
 ·subst h; simp [hj]
 ·have : i ≠ j := fun e => h e.symm
  simp [h, this]
theorem yZ : ∀ {es : List Sv.Edge} {a : List Bool}, a.length = 257 → (∀ e ∈ es, EB e) → Tot (cutE es a) fun a' => a'.length = 257 ∧ ∀ i : Nat, a'[i]? = some true ↔ a[i]? = some true ∨ ∃ e ∈ es, (i : Int) = e.lo ∨ (i : Int) = e.hi + 1
 | [], a, ha, _ => ah ⟨ha, fun i => ⟨.inl, fun h => by
  rcases h with h | ⟨e, he, _⟩
  ·exact h
  ·cases he⟩⟩
 | e :: r, a, ha, h => by
  obtain ⟨h1, h2, h3, h4⟩ := h e (List.mem_cons_self ..)
  unfold cutE
  refine fC h1 (by omega) ha (ar ⟨h3, h4⟩ (fC (by omega) (by omega) (by rw [List.length_set]; exact ha) ?_))
  refine (yZ (by rw [List.length_set, List.length_set]; exact ha) fun e' he' => h e' (List.mem_cons_of_mem _ he')).mono fun a' ⟨g1, g2⟩ => ⟨g1, fun i => ?_⟩
  rw [g2 i, qq (by rw [List.length_set, ha]; omega), qq (by rw [ha]; omega)]
  constructor
  ·rintro (((h | h) | h) | ⟨e', he', h⟩)
   ·exact .inl h
   ·exact .inr ⟨e, List.mem_cons_self .., .inl (by omega)⟩
   ·exact .inr ⟨e, List.mem_cons_self .., .inr (by omega)⟩
   ·exact .inr ⟨e', List.mem_cons_of_mem _ he', h⟩
  ·rintro (g | ⟨e', he', g⟩)
   ·exact .inl (.inl (.inl g))
   ·rcases List.mem_cons.1 he' with he' | he'
    ·rw [he'] at g
     rcases g with g | g
     ·exact .inl (.inl (.inr (by omega)))
     ·exact .inl (.inr (by omega))
    ·exact .inr ⟨e', he', g⟩
theorem yY : ∀ {l : List Stt} {n : Nat} {a : List Bool}, a.length = 257 → AB n l → Tot (cutL l a) fun a' => a'.length = 257 ∧ ∀ i : Nat, a'[i]? = some true ↔ a[i]? = some true ∨ ∃ s ∈ l, ∃ e ∈ s.aL, (i : Int) = e.lo ∨ (i : Int) = e.hi + 1
 | [], n, a, ha, _ => ah ⟨ha, fun i => ⟨.inl, fun h => by
  rcases h with h | ⟨e, he, _⟩
  ·exact h
  ·cases he⟩⟩
 | s :: r, n, a, ha, h => by
  unfold cutL
  have h1 := h.row s (List.mem_cons_self ..)
  refine ar (by omega) (an (yZ ha (h.eb s (List.mem_cons_self ..))) fun a1 ⟨g1, g2⟩ => ?_)
  refine (yY g1 (n := n) ⟨Nat.le_trans (Nat.le_succ _) h.len, fun s hs => h.row s (List.mem_cons_of_mem _ hs), fun s hs => h.eb s (List.mem_cons_of_mem _ hs)⟩).mono fun a' ⟨g3, g4⟩ => ⟨g3, fun i => ?_⟩
  rw [g4 i, g2 i]
  constructor
  ·rintro ((h | ⟨e, he, h⟩) | ⟨t, ht, h⟩)
   ·exact .inl h
   ·exact .inr ⟨s, List.mem_cons_self .., e, he, h⟩
   ·exact .inr ⟨t, List.mem_cons_of_mem _ ht, h⟩
  ·rintro (g | ⟨t, ht, g⟩)
   ·exact .inl (.inl g)
   ·rcases List.mem_cons.1 ht with ht | ht
    ·rw [ht] at g
     exact .inl (.inr g)
    ·exact .inr ⟨t, ht, g⟩
theorem rK {a : List Bool} (ha : a.length = 257) : ∀ {n b : Nat} {out : List Int}, n + b = 256 → out.length ≤ b → Tot (y5 a n b out) fun o => ∃ ext, o = out ++ ext ∧ ext.length ≤ n ∧ ext.Pairwise (· < ·) ∧ (∀ x ∈ ext, (b : Int) ≤ x ∧ x < 256) ∧ ∀ i : Nat, b ≤ i → i < 256 → (a[i]? = some true ↔ (i : Int) ∈ ext)
 | 0, b, out, h, _ => ah ⟨[], by simp, by simp, List.Pairwise.nil, fun x hx => (by cases hx), fun i h1 h2 => by omega⟩
 | n + 1, b, out, h, ho => by
  unfold y5
  refine u5 (by omega) (by omega) ha fun x hx => ?_
  rw [show ((b : Int)).toNat = b by omega] at hx
  have e1 : ((b : Int) + 1) = ((b + 1 : Nat) : Int) := by omega
  rw [e1]
  refine aq (fun hx1 => ?_) fun hx1 => ?_
  ·refine aZ (by omega) ((rK ha (n := n) (b := b + 1) (by omega) (by simp; omega)).mono fun o ⟨ext, g1, g2, g3, g4, g5⟩ => ?_)
   refine ⟨(b : Int) :: ext, by rw [g1]; simp, by simp; omega, List.pairwise_cons.2 ⟨fun y hy => by have := g4 y hy; omega, g3⟩, fun y hy => ?_, fun i h1 h2 => ?_⟩
   ·rcases List.mem_cons.1 hy with rfl | hy
    ·omega
    ·have := g4 y hy; omega
   ·by_cases e : i = b
    ·subst e
     rw [hx, hx1]
     simp
    ·rw [g5 i (by omega) h2]
     constructor
     ·exact List.mem_cons_of_mem _
     ·intro h
      rcases List.mem_cons.1 h with h | h
      ·omega
      ·exact h
  ·refine (rK ha (n := n) (b := b + 1) (by omega) (by omega)).mono fun o ⟨ext, g1, g2, g3, g4, g5⟩ => ⟨ext, g1, by omega, g3, fun y hy => by have := g4 y hy; omega, fun i h1 h2 => ?_⟩
   by_cases e : i = b
   ·subst e
    rw [hx]
    constructor
    ·intro h; cases h; exact absurd rfl hx1
    ·intro h; have := g4 _ h; omega
   ·exact g5 i (by omega) h2
structure wH (l : List Stt) (bJ : List Int) : Prop where
 pos : bJ[0]? = some 0
 len : bJ.length ≤ 256
 rng : ∀ c ∈ bJ, 0 ≤ c ∧ c < 256
 inc : bJ.Pairwise (· < ·)
 lo : ∀ s ∈ l, ∀ e ∈ s.aL, e.lo ∈ bJ
 hi : ∀ s ∈ l, ∀ e ∈ s.aL, e.hi < 255 → e.hi + 1 ∈ bJ
theorem cut_tot {l : List Stt} {n : Nat} (h : AB n l) (hn : n ≤ 1000000000) : Tot (cutM l) (wH l) := by
 unfold cutM
 have h1 := h.len
 refine ar (by omega) (an (yY (a := at0) (by unfold at0; rw [List.length_cons, List.length_replicate]) h) fun a ⟨g1, g2⟩ => ?_)
 refine (rK g1 (n := 256) (b := 0) (out := []) rfl (Nat.le_refl _)).mono fun o ⟨ext, e1, e2, e3, e4, e5⟩ => ?_
 rw [List.nil_append] at e1
 subst e1
 have hz : (0 : Int) ∈ o := (e5 0 (Nat.le_refl _) (by omega)).1 ((g2 0).2 (.inl rfl))
 refine ⟨?_, e2, fun c hc => by have := e4 c hc; omega, e3, fun s hs e he => ?_, fun s hs e he hlt => ?_⟩
 ·cases o with
  | nil => cases hz
  | cons x r =>
   rcases List.mem_cons.1 hz with hz | hz
   ·rw [← hz]; rfl
   ·have := (List.pairwise_cons.1 e3).1 0 hz
    have := e4 x (List.mem_cons_self ..)
    omega
 ·obtain ⟨q1, q2, q3, q4⟩ := h.eb s hs e he
  have := (e5 e.lo.toNat (by omega) (by omega)).1 ((g2 _).2 (.inr ⟨s, hs, e, he, .inl (by omega)⟩))
  rwa [show ((e.lo.toNat : Nat) : Int) = e.lo by omega] at this
 ·obtain ⟨q1, q2, q3, q4⟩ := h.eb s hs e he
  have := (e5 (e.hi + 1).toNat (by omega) (by omega)).1 ((g2 _).2 (.inr ⟨s, hs, e, he, .inr (by omega)⟩))
  rwa [show (((e.hi + 1).toNat : Nat) : Int) = e.hi + 1 by omega] at this
def goE (c : Int) (es : List Sv.Edge) (t : Int) : Int := es.foldl (fun t e => if e.lo ≤ c ∧ c ≤ e.hi then e.to else t) t
theorem my {c : Int} {i : Nat} : ∀ {es : List Sv.Edge} {row : List Int} {t : Int}, (∀ e ∈ es, EB e) → row[i]? = some t → Tot (vu c i es row) fun o => o = row.set i (goE c es t)
 | [], row, t, _, h => ah (by
  obtain ⟨h1, h2⟩ := List.getElem?_eq_some_iff.1 h
  rw [show goE c [] t = t from rfl, ← h2, List.set_getElem_self])
 | e :: r, row, t, he, h => by
  have hi := (List.getElem?_eq_some_iff.1 h).1
  obtain ⟨h1, h2, h3, h4⟩ := he e (List.mem_cons_self ..)
  have hr : ∀ e' ∈ r, EB e' := fun e' h' => he e' (List.mem_cons_of_mem _ h')
  unfold vu
  refine ar ⟨h1, h2⟩ (aq (fun g1 => ar ⟨h3, h4⟩ (aq (fun g2 => ?_) fun g2 => ?_)) fun g1 => ?_)
  ·refine dT (by omega) (by omega) ?_
   rw [show ((i : Int)).toNat = i by omega]
   refine (my (es := r) (t := e.to) hr (by rw [List.getElem?_set]; simp [hi])).mono fun o ho => ?_
   rw [ho, List.set_set]
   unfold goE
   rw [List.foldl_cons, if_pos ⟨g1, g2⟩]
  ·refine (my (es := r) (t := t) hr h).mono fun o ho => ?_
   rw [ho]
   unfold goE
   rw [List.foldl_cons, if_neg (fun h => g2 h.2)]
  ·refine (my (es := r) (t := t) hr h).mono fun o ho => ?_
   rw [ho]
   unfold goE
   rw [List.foldl_cons, if_neg (fun h => g1 h.1)]
theorem xB {es : List Sv.Edge} {sink : Int} (he : ∀ e ∈ es, EB e) (hl : es.length ≤ 256) : ∀ {r : List Int} {i : Nat} {row : List Int}, i + r.length = row.length → Tot (rowC es sink r i row) fun o => o = row.take i ++ r.map fun c => goE c es sink
 | [], i, row, h => ah (by simp at h; rw [List.map_nil, List.append_nil, h, List.take_length])
 | c :: r, i, row, h => by
  rw [List.length_cons] at h
  have hi : i < row.length := by omega
  unfold rowC
  refine dT (by omega) (by omega) (ar (by omega) ?_)
  rw [show ((i : Int)).toNat = i by omega]
  refine an (my (t := sink) he (by rw [List.getElem?_set]; simp [hi])) fun row1 h1 => ?_
  rw [List.set_set] at h1
  subst h1
  have e1 : ((i : Int) + 1) = ((i + 1 : Nat) : Int) := by omega
  rw [e1]
  refine (xB he hl (r := r) (i := i + 1) (row := row.set i (goE c es sink)) (by rw [List.length_set]; omega)).mono fun o ho => ?_
  rw [ho, List.map_cons, List.take_add_one, List.getElem?_set]
  simp [hi, List.take_set_of_le]
def tM (bJ : List Int) (l : List Stt) (sink : Int) : List (List Int) := l.map fun s => bJ.map fun c => goE c s.aL sink
theorem uA {bJ : List Int} (hc : bJ.length ≤ 256) {n : Nat} (hn : n < 1000000000) {sink : Int} : ∀ {l : List Stt} {next : List (List Int)} {acc : List Bool}, AB n l → next.length + l.length ≤ n → acc.length = next.length → Tot (rN bJ sink l next acc) fun p => p = (next ++ tM bJ l sink, acc ++ l.map (·.acc))
 | [], next, acc, _, _, _ => ah (by simp [tM])
 | s :: r, next, acc, h, h1, h2 => by
  rw [List.length_cons] at h1
  unfold rN
  refine ar (by omega) (ar (by omega) (an (xB (h.eb s (List.mem_cons_self ..)) (h.row s (List.mem_cons_self ..)) (r := bJ) (i := 0) (row := List.replicate bJ.length 0) (by simp)) fun row hrow => ?_))
  subst hrow
  refine aZ (by omega) (aZ (by omega) ?_)
  refine (uA hc hn (l := r) ⟨Nat.le_trans (Nat.le_succ _) h.len, fun s hs => h.row s (List.mem_cons_of_mem _ hs), fun s hs => h.eb s (List.mem_cons_of_mem _ hs)⟩ (by simp; omega) (by simp [h2])).mono fun p hp => ?_
  rw [hp]
  simp [tM]
theorem uc {sink : Int} : ∀ {n : Nat} {i : Nat} {l : List Int}, i + n = l.length → Tot (rn sink n i l) fun o => o = l.take i ++ List.replicate n sink
 | 0, i, l, h => ah (by simp at h; rw [h]; simp)
 | n + 1, i, l, h => by
  have hi : i < l.length := by omega
  unfold rn
  refine dT (by omega) (by omega) ?_
  rw [show ((i : Int)).toNat = i by omega]
  have e1 : ((i : Int) + 1) = ((i + 1 : Nat) : Int) := by omega
  rw [e1]
  refine (uc (n := n) (i := i + 1) (l := l.set i sink) (by rw [List.length_set]; omega)).mono fun o ho => ?_
  rw [ho, List.take_add_one, List.getElem?_set]
  simp [hi, List.take_set_of_le, List.replicate_succ]
structure Comp (l : List Stt) (p : List Int × List (List Int) × List Bool) : Prop where
 bJ : wH l p.1
 next : p.2.1 = tM p.1 l l.length ++ [List.replicate p.1.length (l.length : Int)]
 acc : p.2.2 = l.map (·.acc) ++ [false]
theorem comp_tot {l : List Stt} {n : Nat} (h : AB n l) (hn : n < 900000000) : Tot (compM l) (Comp l) := by
 have h1 := h.len
 unfold compM
 refine an (cut_tot h (by omega)) fun bJ hc => ?_
 have h2 := hc.len
 refine ar (by omega) (an (uA h2 (n := n) (by omega) (l := l) (next := []) (acc := []) h (by simp; omega) rfl) fun p hp => ?_)
 subst hp
 refine ar (by omega) (an (uc (n := bJ.length) (i := 0) (l := List.replicate bJ.length 0) (by simp)) fun last hlast => ?_)
 subst hlast
 refine aZ (by simp [tM]; omega) (aZ (by simp; omega) (ah ⟨hc, by simp, by simp⟩))
theorem goE_rng {c : Int} {n : Nat} : ∀ {es : List Sv.Edge} {t : Int}, (∀ e ∈ es, 0 ≤ e.to ∧ e.to < n) → 0 ≤ t → t ≤ n → 0 ≤ goE c es t ∧ goE c es t ≤ n
 | [], t, _, h1, h2 => ⟨h1, h2⟩
 | e :: r, t, h, h1, h2 => by
  unfold goE
  rw [List.foldl_cons]
  have := h e (List.mem_cons_self ..)
  refine goE_rng (es := r) (fun e' h' => h e' (List.mem_cons_of_mem _ h')) ?_ ?_ <;> split <;> omega
theorem Comp.tb {l : List Stt} {p : List Int × List (List Int) × List Bool} (h : Comp l p) (hw : WF l) : Tb (l.length + 1) p.1.length p.2.1 := by
 rw [h.next]
 refine ⟨by simp [tM], fun r hr => ?_, fun r hr t ht => ?_⟩
 ·rcases List.mem_append.1 hr with hr | hr
  ·obtain ⟨s, hs, rfl⟩ := List.mem_map.1 hr
   simp
  ·rw [List.mem_singleton.1 hr]; simp
 ·rcases List.mem_append.1 hr with hr | hr
  ·obtain ⟨s, hs, rfl⟩ := List.mem_map.1 hr
   obtain ⟨c, hc, rfl⟩ := List.mem_map.1 ht
   have := goE_rng (c := c) (n := l.length) (es := s.aL) (t := l.length) (fun e he => ((hw s hs).one e he).2) (by omega) (Int.le_refl _)
   omega
  ·rw [List.mem_singleton.1 hr] at ht
   have := (List.mem_replicate.1 ht).2
   omega
theorem rY {n : Nat} : ∀ {acc : List Bool} {s : Nat} {c : List Nat}, c.length = n → s + acc.length = n → Tot (zi acc s (NI c)) fun o => o = NI (c.take s ++ List.zipWith (fun (a : Bool) (x : Nat) => if a then 1 else x) acc (c.drop s))
 | [], s, c, h, h1 => ah (by
  have : c.take s = c := List.take_of_length_le (by simp at h1; omega)
  rw [List.zipWith_nil_left, List.append_nil, this])
 | a :: r, s, c, h, h1 => by
  rw [List.length_cons] at h1
  have hs : s < c.length := by omega
  have e1 : ((s : Int) + 1) = ((s + 1 : Nat) : Int) := by omega
  unfold zi
  refine aq (fun ha => ?_) fun ha => ?_
  ·refine dT (by omega) (by rw [List.length_map]; omega) ?_
   have e2 : (NI c).set s 1 = NI (c.set s 1) := NI_set c s 1
   rw [show ((s : Int)).toNat = s by omega, e2, e1]
   refine (rY (n := n) (acc := r) (s := s + 1) (by rw [List.length_set]; exact h) (by omega)).mono fun o ho => ?_
   rw [ho, List.drop_eq_getElem_cons hs, List.zipWith_cons_cons, if_pos ha]
   congr 1
   rw [List.take_add_one, List.getElem?_set_self hs, Option.toList_some, List.append_assoc, List.singleton_append, List.take_set_of_le (Nat.le_refl _), List.drop_set_of_lt (Nat.lt_succ_self _)]
  ·rw [e1]
   refine (rY (n := n) (acc := r) (s := s + 1) h (by omega)).mono fun o ho => ?_
   rw [ho, List.drop_eq_getElem_cons hs, List.zipWith_cons_cons, if_neg ha]
   congr 1
   rw [List.take_add_one, List.getElem?_eq_getElem hs, Option.toList_some, List.append_assoc, List.singleton_append]
theorem refM_tot {n w : Nat} {next : List (List Int)} {acc : List Bool} (hT : Tb n w next) (hn0 : 0 < n) (hn : n < 1000000000) (hw : w ≤ 256) (ha : acc.length = n) :
  Tot (refM next acc) fun r => ∃ c m, r = NI c ∧ Pt n m c ∧ Stab n next c ∧ ∀ s t, s < n → t < n → c.getD s 0 = c.getD t 0 → acc.getD s false = acc.getD t false := by
 unfold refM
 have e0 : List.replicate next.length (0 : Int) = NI (List.replicate n 0) := by rw [hT.len]; simp [NI]
 refine ar (by rw [hT.len]; exact hn) (ar (by omega) ?_)
 rw [e0]
 refine an (rY (n := n) (acc := acc) (s := 0) (c := List.replicate n 0) (by simp) (by omega)) fun o ho => ?_
 subst ho
 rw [List.take_zero, List.nil_append, List.drop_zero, hT.len]
 have hg : ∀ s, s < n → (List.zipWith (fun (a : Bool) (x : Nat) => if a then 1 else x) acc (List.replicate n 0)).getD s 0 = if acc.getD s false = true then 1 else 0 := fun s hs => by
  rw [List.getD_eq_getElem?_getD, List.getD_eq_getElem?_getD, List.getElem?_zipWith, List.getElem?_replicate, if_pos hs, List.getElem?_eq_getElem (by omega)]
  rfl
 refine xL hT hn0 hn hw (A := fun s t => acc.getD s false = acc.getD t false) (f := n + 2) (many := 0) (by simp [ha]) (fun x hx => ?_) (fun s t hs ht e => ?_) (.inl rfl) (Nat.zero_le _) (by omega)
 ·obtain ⟨i, hi⟩ := List.mem_iff_getElem?.1 hx
  have h1 := (List.getElem?_eq_some_iff.1 hi).1
  rw [List.length_zipWith, List.length_replicate, ha, Nat.min_self] at h1
  have := hg i h1
  rw [cx hi] at this
  rw [this]
  split <;> omega
 ·rw [hg s hs, hg t ht] at e
  split at e <;> split at e <;> rename_i h1 h2
  ·rw [h1, h2]
  ·cases e
  ·cases e
  ·rw [Bool.not_eq_true] at h1 h2; rw [h1, h2]
def LvT (next : List (List Int)) (acc : List Bool) : Nat → Nat → Prop
 | 0, s => acc.getD s false = true
 | k + 1, s => ∃ to ∈ next.getD s [], LvT next acc k to.toNat
theorem Tb.at_ {n w : Nat} {next : List (List Int)} (hT : Tb n w next) {s : Nat} (hs : s < n) : next.getD s [] ∈ next ∧ (next.getD s []).length = w := by
 have h3 : s < next.length := by rw [hT.len]; exact hs
 rw [cx (List.getElem?_eq_getElem h3)]
 exact ⟨List.getElem_mem h3, hT.row _ (List.getElem_mem h3)⟩
theorem pT {n w : Nat} {next : List (List Int)} {acc : List Bool} {c : List Nat} (hT : Tb n w next) (hS : Stab n next c) (hA : ∀ s t, s < n → t < n → c.getD s 0 = c.getD t 0 → acc.getD s false = acc.getD t false) : ∀ (j s t : Nat), s < n → t < n → c.getD s 0 = c.getD t 0 → LvT next acc j s → LvT next acc j t
 | 0, s, t, hs, ht, e, h => by
  show acc.getD t false = true
  rw [← hA s t hs ht e]
  exact h
 | j + 1, s, t, hs, ht, e, ⟨to, h1, h2⟩ => by
  obtain ⟨i, hi⟩ := List.mem_iff_getElem?.1 h1
  have hil := (List.getElem?_eq_some_iff.1 hi).1
  rw [(hT.at_ hs).2, ← (hT.at_ ht).2] at hil
  have hi' := List.getElem?_eq_getElem hil
  have hm := List.getElem_mem hil
  have r1 := hT.rng _ (hT.at_ hs).1 to h1
  have r2 := hT.rng _ (hT.at_ ht).1 _ hm
  exact ⟨_, hm, pT hT hS hA j _ _ (by omega) (by omega) (hS s t hs ht e i _ _ hi hi') h2⟩
theorem jL {n : Nat} {c : List Nat} {out : List Bool} (hc : c.length = n) (hlt : ∀ s, s < n → c.getD s 0 < n) (ho : out.length = n) : ∀ {row : List Int} {ok : Bool}, (∀ t ∈ row, 0 ≤ t ∧ t < n) → Tot (gN (NI c) out row ok) fun b => b = true ↔ ok = true ∨ ∃ to ∈ row, out.getD (c.getD to.toNat 0) false = true
 | [], ok, _ => ah ⟨.inl, fun h => by
  rcases h with h | ⟨t, ht, _⟩
  ·exact h
  ·cases ht⟩
 | to :: r, ok, h => by
  obtain ⟨h0, h1⟩ := h to (List.mem_cons_self ..)
  have ht : to.toNat < c.length := by omega
  have hr : ∀ t ∈ r, 0 ≤ t ∧ t < n := fun t ht => h t (List.mem_cons_of_mem _ ht)
  unfold gN
  refine aq (fun hok => ?_) fun hok => ?_
  ·exact (jL hc hlt ho (row := r) (ok := true) hr).mono fun b hb => ⟨fun _ => .inl hok, fun _ => hb.2 (.inl rfl)⟩
  ·refine aP h0 (by rw [List.length_map]; omega) fun x hx _ => ?_
   rw [List.getElem?_map, List.getElem?_eq_getElem ht] at hx
   simp only [Option.map_some, Option.some.injEq] at hx
   have h2 := hlt to.toNat (by omega)
   rw [cx (List.getElem?_eq_getElem ht)] at h2
   refine aP (by omega) (by omega) fun y hy _ => ?_
   refine (jL hc hlt ho (row := r) (ok := y) hr).mono fun b hb => hb.trans ?_
   have e : out.getD (c.getD to.toNat 0) false = y := by
    rw [cx (List.getElem?_eq_getElem ht)]
    rw [← hx, show ((c[to.toNat] : Nat) : Int).toNat = c[to.toNat] by omega] at hy
    exact cx hy
   constructor
   ·rintro (g | ⟨t, g1, g2⟩)
    ·exact .inr ⟨to, List.mem_cons_self .., e.trans g⟩
    ·exact .inr ⟨t, List.mem_cons_of_mem _ g1, g2⟩
   ·rintro (g | ⟨t, g1, g2⟩)
    ·exact absurd g hok
    ·rcases List.mem_cons.1 g1 with rfl | g1
     ·exact .inl (e.symm.trans g2)
     ·exact .inr ⟨t, g1, g2⟩
def okS (next : List (List Int)) (acc : List Bool) (c : List Nat) (out : List Bool) (s : Nat) : Prop := acc.getD s false = true ∨ ∃ to ∈ next.getD s [], out.getD (c.getD to.toNat 0) false = true
structure LSnd (n : Nat) (next : List (List Int)) (acc : List Bool) (c : List Nat) (out : List Bool) : Prop where
 len : out.length = n
 snd : ∀ x, out.getD x false = true → ∃ s k, s < n ∧ c.getD s 0 = x ∧ LvT next acc k s
theorem getD_setB {l : List Bool} {i j : Nat} {v : Bool} (hi : i < l.length) : (l.set i v).getD j false = if j = i then v else l.getD j false := by
 rw [List.getD_eq_getElem?_getD, List.getElem?_set]
 by_cases h : j = i
 ·subst h; simp [hi]
 ·have : i ≠ j := fun e => h e.symm
  simp [h, this, List.getD_eq_getElem?_getD]
theorem nS {n w : Nat} {next : List (List Int)} {acc : List Bool} {c : List Nat} (hT : Tb n w next) (hw : w ≤ 256) (ha : acc.length = n) (hc : c.length = n) (hlt : ∀ s, s < n → c.getD s 0 < n) (hS : Stab n next c) (hA : ∀ s t, s < n → t < n → c.getD s 0 = c.getD t 0 → acc.getD s false = acc.getD t false) :
  ∀ {r : List (List Int)} {k : Nat} {out : List Bool} {ag : Bool}, next.drop k = r → k ≤ n → LSnd n next acc c out → Tot (ly acc (NI c) r k out ag) fun p => LSnd n next acc c p.1 ∧ out.count true ≤ p.1.count true ∧ (p.2 = true → ag = true ∨ out.count true < p.1.count true) ∧ (p.2 = false → ag = false ∧ p.1 = out ∧ ∀ s, k ≤ s → s < n → okS next acc c out s → out.getD (c.getD s 0) false = true)
 | [], k, out, ag, hr, hk, h => by
  have : next.length ≤ k := by rw [List.drop_eq_nil_iff] at hr; exact hr
  rw [hT.len] at this
  exact ah ⟨h, Nat.le_refl _, .inl, fun e => ⟨e, rfl, fun s h1 h2 => by omega⟩⟩
 | row :: r, k, out, ag, hr, hk, h => by
  have hkn : k < n := by
   rcases Nat.lt_or_ge k n with g | g
   ·exact g
   ·rw [List.drop_eq_nil_of_le (by rw [hT.len]; exact g)] at hr; cases hr
  have hr' : next.drop (k + 1) = r := by rw [← List.drop_drop, hr]; rfl
  have hrow : next[k]? = some row := by
   rw [List.drop_eq_getElem_cons (by rw [hT.len]; exact hkn)] at hr
   injection hr with h1 _
   rw [← h1]
   exact List.getElem?_eq_getElem _
  have hmem := List.mem_of_getElem? hrow
  have e1 : ((k : Int) + 1) = ((k + 1 : Nat) : Int) := by omega
  unfold ly
  refine aP (by omega) (by omega) fun a hacc _ => ar (by rw [hT.row row hmem]; omega) ?_
  rw [show ((k : Int)).toNat = k by omega] at hacc
  refine an (jL hc hlt h.len (hT.rng row hmem)) fun ok hok => ?_
  have hok' : ok = true ↔ okS next acc c out k := by
   rw [hok]
   unfold okS
   rw [cx hacc, cx hrow]
  have hck := hlt k hkn
  have hkc : k < c.length := by omega
  have next' : ∀ ag', (ag' = ag) → (ok = true → out.getD (c.getD k 0) false = true) → Tot (ly acc (NI c) r ((k + 1 : Nat) : Int) out ag') fun p => LSnd n next acc c p.1 ∧ out.count true ≤ p.1.count true ∧ (p.2 = true → ag = true ∨ out.count true < p.1.count true) ∧ (p.2 = false → ag = false ∧ p.1 = out ∧ ∀ s, k ≤ s → s < n → okS next acc c out s → out.getD (c.getD s 0) false = true) := fun ag' e hcl => by
   subst e
   refine (nS hT hw ha hc hlt hS hA hr' hkn h).mono fun p ⟨g1, g2, g3, g4⟩ => ⟨g1, g2, g3, fun e => ?_⟩
   obtain ⟨q1, q2, q3⟩ := g4 e
   refine ⟨q1, q2, fun s h1 h2 h3 => ?_⟩
   by_cases e2 : s = k
   ·subst e2; exact hcl (hok'.2 h3)
   ·exact q3 s (by omega) h2 h3
  refine aq (fun hk1 => ?_) fun hk1 => ?_
  ·have hx : (NI c)[k]? = some ((c.getD k 0 : Nat) : Int) := by rw [List.getElem?_map, List.getElem?_eq_getElem hkc, cx (List.getElem?_eq_getElem hkc)]; rfl
   refine aP (by omega) (by rw [List.length_map]; omega) fun x hx1 _ => ?_
   rw [show ((k : Int)).toNat = k by omega, hx] at hx1
   cases hx1
   refine aP (by omega) (by rw [h.len]; omega) fun y hy _ => ?_
   rw [show (((c.getD k 0 : Nat) : Int)).toNat = c.getD k 0 by omega] at hy
   refine aq (fun hy1 => ?_) fun hy1 => ?_
   ·rw [e1]
    exact next' ag rfl fun _ => by rw [cx hy]; exact hy1
   ·refine aP (by omega) (by rw [List.length_map]; omega) fun x hx1 _ => ?_
    rw [show ((k : Int)).toNat = k by omega, hx] at hx1
    cases hx1
    refine dT (by omega) (by rw [h.len]; omega) ?_
    rw [show (((c.getD k 0 : Nat) : Int)).toNat = c.getD k 0 by omega, e1]
    have hlen : c.getD k 0 < out.length := by rw [h.len]; exact hck
    have hcnt : (out.set (c.getD k 0) true).count true = out.count true + 1 := by
     rw [List.count_set hlen]
     have : out[c.getD k 0] = false := by
      rw [List.getElem?_eq_getElem hlen] at hy
      cases hy
      simpa using hy1
     rw [this]
     simp
    have hs : LSnd n next acc c (out.set (c.getD k 0) true) := ⟨by rw [List.length_set]; exact h.len, fun x hx => by
     rw [getD_setB hlen] at hx
     split at hx
     ·rename_i e
      subst e
      rcases hok'.1 hk1 with g | ⟨to, g1, g2⟩
      ·exact ⟨k, 0, hkn, rfl, g⟩
      ·
       obtain ⟨s, j, q1, q2, q3⟩ := h.snd _ g2
       have hto := hT.rng _ (hT.at_ hkn).1 to g1
       exact ⟨k, j + 1, hkn, rfl, to, g1, pT hT hS hA j s _ q1 (by omega) q2 q3⟩
     ·exact h.snd x hx⟩
    refine (nS hT hw ha hc hlt hS hA hr' hkn hs (ag := true)).mono fun p ⟨g1, g2, g3, g4⟩ => ⟨g1, by omega, fun _ => .inr (by omega), fun e => ?_⟩
    exact absurd (g4 e).1 (by decide)
  ·rw [e1]
   exact next' ag rfl fun h => absurd h hk1
structure Live (n : Nat) (next : List (List Int)) (acc : List Bool) (c : List Nat) (out : List Bool) : Prop extends LSnd n next acc c out where
 cl : ∀ s, s < n → okS next acc c out s → out.getD (c.getD s 0) false = true
theorem tY {n w : Nat} {next : List (List Int)} {acc : List Bool} {c : List Nat} (hT : Tb n w next) (hn : n < 1000000000) (hw : w ≤ 256) (ha : acc.length = n) (hc : c.length = n) (hlt : ∀ s, s < n → c.getD s 0 < n) (hS : Stab n next c) (hA : ∀ s t, s < n → t < n → c.getD s 0 = c.getD t 0 → acc.getD s false = acc.getD t false) :
  ∀ {f : Nat} {out : List Bool} {ag : Bool}, LSnd n next acc c out → (ag = true → n + 2 ≤ f + out.count true) → 1 ≤ f → (ag = false → Live n next acc c out) → Tot (ri acc (NI c) next f out ag) (Live n next acc c)
 | 0, _, _, _, _, h, _ => by omega
 | f + 1, out, ag, h, h1, _, h2 => by
  unfold ri
  refine aq (fun hag => ar (by rw [hT.len]; omega) ?_) fun hag => ah (h2 (by simpa using hag))
  refine an (nS hT hw ha hc hlt hS hA (r := next) (k := 0) rfl (Nat.zero_le _) h (ag := false)) fun p ⟨g1, g2, g3, g4⟩ => ?_
  have h3 := h1 hag
  have hcn : out.count true ≤ n := by rw [← h.len]; exact List.count_le_length
  refine tY hT hn hw ha hc hlt hS hA g1 (fun e => ?_) (by omega) fun e => ?_
  ·rcases g3 e with g | g
   ·cases g
   ·omega
  ·obtain ⟨_, q2, q3⟩ := g4 e
   rw [q2]
   exact ⟨h, fun s hs => q3 s (Nat.zero_le _) hs⟩
theorem liveM_tot {n w : Nat} {next : List (List Int)} {acc : List Bool} {c : List Nat} (hT : Tb n w next) (hn : n < 1000000000) (hw : w ≤ 256) (ha : acc.length = n) (hc : c.length = n) (hlt : ∀ s, s < n → c.getD s 0 < n) (hS : Stab n next c) (hA : ∀ s t, s < n → t < n → c.getD s 0 = c.getD t 0 → acc.getD s false = acc.getD t false) :
  Tot (liveM next acc (NI c)) (Live n next acc c) := by
 unfold liveM
 refine ar (by rw [hT.len]; exact hn) ?_
 rw [hT.len]
 exact tY hT hn hw ha hc hlt hS hA ⟨by simp, fun x hx => by
  rw [List.getD_eq_getElem?_getD, List.getElem?_replicate] at hx
  split at hx <;> cases hx⟩ (fun _ => by omega) (by omega) fun e => by cases e
theorem Live.all {n w : Nat} {next : List (List Int)} {acc : List Bool} {c : List Nat} {out : List Bool} (h : Live n next acc c out) (hT : Tb n w next) : ∀ (j s : Nat), s < n → LvT next acc j s → out.getD (c.getD s 0) false = true
 | 0, s, hs, h1 => h.cl s hs (.inl h1)
 | j + 1, s, hs, ⟨to, h1, h2⟩ => by
  have := hT.rng _ (hT.at_ hs).1 to h1
  exact h.cl s hs (.inr ⟨to, h1, h.all hT j _ (by omega) h2⟩)
def dQ (c : List Nat) (s : Int) : Nat := c.getD s.toNat 0
def mF (c : List Nat) (o : List Int) : List (Int × Int) := o.zipIdx.map fun p => ((dQ c p.1 : Int), (p.2 : Int))
theorem mF_app (c : List Nat) (o : List Int) (s : Int) : mF c (o ++ [s]) = mF c o ++ [((dQ c s : Int), (o.length : Int))] := by
 unfold mF
 rw [List.zipIdx_append, List.map_append]
 simp
theorem mF_some {c : List Nat} {o : List Int} {x v : Int} (h : cn x (mF c o) = some v) : ∃ (j : Nat) (s : Int), v = (j : Int) ∧ o[j]? = some s ∧ (dQ c s : Int) = x := by
 obtain ⟨j, hj⟩ := List.mem_iff_getElem?.1 (ft h)
 unfold mF at hj
 rw [List.getElem?_map, List.getElem?_zipIdx] at hj
 cases ho : o[j]? with
 | none => rw [ho] at hj; cases hj
 | some s =>
  rw [ho] at hj
  simp only [Option.map_some, Option.some.injEq, Prod.mk.injEq, Nat.zero_add] at hj
  exact ⟨j, s, hj.2.symm, ho, hj.1⟩
theorem mF_none {c : List Nat} {o : List Int} {x : Int} (h : cn x (mF c o) = none) : ∀ s ∈ o, (dQ c s : Int) ≠ x := fun s hs => by
 obtain ⟨j, hj⟩ := List.mem_iff_getElem?.1 hs
 exact n4 h ((dQ c s : Int), (j : Int)) (List.mem_iff_getElem?.2 ⟨j, by
  unfold mF
  rw [List.getElem?_map, List.getElem?_zipIdx, hj]
  simp⟩)
structure MJ (n : Nat) (c : List Nat) (live : List Bool) (o : List Int) : Prop where
 rng : ∀ s ∈ o, 0 ≤ s ∧ s < n
 lv : ∀ s ∈ o, live.getD (dQ c s) false = true
 nd : (o.map (dQ c)).Nodup
theorem MJ.le {n : Nat} {c : List Nat} {live : List Bool} {o : List Int} (h : MJ n c live o) (hlt : ∀ s, s < n → c.getD s 0 < n) : o.length ≤ n := by
 have := ik (n := n) h.nd fun x hx => by
  obtain ⟨s, hs, rfl⟩ := List.mem_map.1 hx
  have := h.rng s hs
  exact hlt s.toNat (by omega)
 rwa [List.length_map] at this
theorem cuts_step {l : List Stt} {bJ : List Int} (h : wH l bJ) {i : Nat} {x : Int} (hx : bJ[i + 1]? = some x) : 1 ≤ x ∧ x < 256 := by
 have h1 := (List.getElem?_eq_some_iff.1 hx).1
 have h2 := List.pairwise_iff_getElem.1 h.inc i (i + 1) (by omega) h1 (by omega)
 have h3 := h.rng _ (List.getElem_mem (show i < bJ.length by omega))
 have h4 := h.rng _ (List.mem_of_getElem? hx)
 rw [(List.getElem?_eq_some_iff.1 hx).2] at h2
 omega
theorem end_tot {l : List Stt} {bJ : List Int} (h : wH l bJ) (i : Nat) : Tot (pq bJ i) fun x => 0 ≤ x ∧ x < 256 := by
 unfold pq
 refine aq (fun h1 => ?_) fun h1 => ah (by omega)
 have e1 : ((i : Int) + 1) = ((i + 1 : Nat) : Int) := by omega
 rw [e1] at *
 refine aP (by omega) (by omega) fun x hx _ => ?_
 rw [show (((i + 1 : Nat) : Int)).toNat = i + 1 by omega] at hx
 have := cuts_step h hx
 exact ar ⟨by omega, by omega⟩ (ah ⟨by omega, by omega⟩)
structure EX (v : Int) (e e' : List Sv.Edge) : Prop where
 eb : (∀ y ∈ e, EB y) → ∀ y ∈ e', EB y
 len : e'.length ≤ e.length + 1
 old : ∀ x ∈ e, ∃ y ∈ e', y.to = x.to
 new : ∃ y ∈ e', y.to = v
theorem canB_tot {l : List Stt} {bJ : List Int} (h : wH l bJ) {i : Nat} (hi : i < bJ.length) {c v : Int} {m : List (Int × Int)} (hv : cn c m = some v) {e : List Sv.Edge} (he : e.length ≤ i) : Tot (sg bJ i c m e) (EX v e) := by
 unfold sg
 have hl := h.len
 refine aP (by omega) (by omega) fun lo hlo hm => ?_
 obtain ⟨h1, h2⟩ := h.rng lo hm
 refine ar ⟨h1, h2⟩ (an (end_tot h i) fun x hx => ?_)
 rw [hv]
 refine nz (by omega) ⟨fun hb y hy => ?_, by simp, fun y hy => ⟨y, List.mem_append_left _ hy, rfl⟩, ⟨_, List.mem_append_right _ (List.mem_singleton.2 rfl), rfl⟩⟩
 rcases List.mem_append.1 hy with hy | hy
 ·exact hb y hy
 ·rw [List.mem_singleton.1 hy]
  exact ⟨h1, h2, hx.1, hx.2⟩
theorem zl {l : List Stt} {bJ : List Int} (h : wH l bJ) {i : Nat} (hi : i < bJ.length) {c v : Int} {m : List (Int × Int)} (hv : cn c m = some v) {e : List Sv.Edge} (he : e.length ≤ i) (hb : ∀ y ∈ e, EB y) : Tot (canX bJ i c m e) (EX v e) := by
 unfold canX
 have hB := canB_tot h hi hv he
 refine aq (fun h0 => ?_) fun _ => hB
 refine aP (by omega) (by omega) fun p hp hpm => ?_
 rw [hv]
 refine aq (fun h1 => ?_) fun _ => hB
 refine aP (by omega) (by omega) fun p' hp' _ => ?_
 rw [hp] at hp'
 cases hp'
 obtain ⟨b1, b2, b3, b4⟩ := hb p hpm
 refine ar ⟨b3, b4⟩ (aP (by omega) (by omega) fun ct hct _ => aq (fun h2 => ?_) fun _ => hB)
 refine an (end_tot h i) fun x hx => ?_
 have e0 : nP e ((e.length : Int) - 1) (fun p => ⟨p.lo, x, p.to⟩) = some (e.set (e.length - 1) ⟨p.lo, x, p.to⟩) := by
  unfold nP atI
  rw [if_pos (by omega), hp, show ((e.length : Int) - 1).toNat = e.length - 1 by omega]
  rfl
 rw [e0]
 rw [show ((e.length : Int) - 1).toNat = e.length - 1 by omega] at hp
 have hlt : e.length - 1 < e.length := by omega
 have hin : ∃ y ∈ e.set (e.length - 1) ⟨p.lo, x, p.to⟩, y.to = p.to := ⟨⟨p.lo, x, p.to⟩, List.mem_iff_getElem?.2 ⟨e.length - 1, by rw [List.getElem?_set]; simp [hlt]⟩, rfl⟩
 refine ah ⟨fun hb y hy => ?_, by rw [List.length_set]; omega, fun y hy => ?_, by rw [← h1]; exact hin⟩
 ·rcases List.mem_or_eq_of_mem_set hy with hy | rfl
  ·exact hb y hy
  ·exact ⟨b1, b2, hx.1, hx.2⟩
 ·obtain ⟨j, hj⟩ := List.mem_iff_getElem?.1 hy
  by_cases ej : j = e.length - 1
  ·subst ej
   rw [hp] at hj
   cases hj
   exact hin
  ·exact ⟨y, List.mem_iff_getElem?.2 ⟨j, by rw [List.getElem?_set]; simp [show e.length - 1 ≠ j from fun h => ej h.symm, hj]⟩, rfl⟩
def Leads (c : List Nat) (o : List Int) (e : List Sv.Edge) (to : Int) : Prop := ∃ y ∈ e, ∃ (j : Nat) (s : Int), y.to = (j : Int) ∧ o[j]? = some s ∧ dQ c s = dQ c to
structure CE (n : Nat) (c : List Nat) (live : List Bool) (bJ : List Int) (r : List Int) (o : List Int) (e : List Sv.Edge) (p : List Int × List (Int × Int) × List Sv.Edge) : Prop where
 ext : ∃ ox, p.1 = o ++ ox
 mj : MJ n c live p.1
 mp : p.2.1 = mF c p.1
 eb : ∀ y ∈ p.2.2, EB y
 len : p.2.2.length ≤ bJ.length
 old : ∀ x ∈ e, ∃ y ∈ p.2.2, y.to = x.to
 new : ∀ to ∈ r, live.getD (dQ c to) false = true → Leads c p.1 p.2.2 to
theorem mZ {l : List Stt} {bJ : List Int} (h : wH l bJ) {n : Nat} (hn : n < 1000000000) {c : List Nat} {live : List Bool} (hc : c.length = n) (hlt : ∀ s, s < n → c.getD s 0 < n) (hl : live.length = n) :
  ∀ {r : List Int} {i : Nat} {o : List Int} {e : List Sv.Edge}, i + r.length = bJ.length → (∀ t ∈ r, 0 ≤ t ∧ t < n) → MJ n c live o → (∀ y ∈ e, EB y) → e.length ≤ i → Tot (wq bJ (NI c) live r i o (mF c o) e) (CE n c live bJ r o e)
 | [], i, o, e, h1, _, h3, h4, h5 => ah ⟨⟨[], by simp⟩, h3, rfl, h4, (by show e.length ≤ bJ.length; simp at h1; omega), fun x hx => ⟨x, hx, rfl⟩, fun t ht => (by cases ht)⟩
 | to :: r, i, o, e, h1, h2, h3, h4, h5 => by
  rw [List.length_cons] at h1
  obtain ⟨t0, t1⟩ := h2 to (List.mem_cons_self ..)
  have htc : to.toNat < c.length := by omega
  have hcl := hlt to.toNat (by omega)
  have ho := h3.le hlt
  have hk := h.len
  have e1 : ((i : Int) + 1) = ((i + 1 : Nat) : Int) := by omega
  have hcx : (NI c)[to.toNat]? = some ((dQ c to : Nat) : Int) := by
   unfold dQ
   rw [List.getElem?_map, List.getElem?_eq_getElem htc, cx (List.getElem?_eq_getElem htc)]
   rfl
  have hr2 : ∀ t ∈ r, 0 ≤ t ∧ t < n := fun t ht => h2 t (List.mem_cons_of_mem _ ht)
  unfold wq
  refine aP t0 (by rw [List.length_map]; omega) fun x hx _ => ?_
  rw [hcx] at hx
  cases hx
  have hcl' : dQ c to < n := hcl
  refine aP (by omega) (by omega) fun y hy _ => ?_
  rw [show (((dQ c to : Nat) : Int)).toNat = dQ c to by omega] at hy
  refine aq (fun hy1 => ?_) fun hy1 => ?_
  ·split
   ·rename_i v hv
    obtain ⟨j, s, hvj, hos, hcs⟩ := mF_some hv
    refine ar (by omega) (an (zl h (by omega) hv h5 h4) fun e' hE => ?_)
    rw [e1]
    have hlen := hE.len
    refine (mZ h hn hc hlt hl (r := r) (i := i + 1) (o := o) (e := e') (by omega) hr2 h3 (hE.eb h4) (by omega)).mono fun p hp => ?_
    refine ⟨hp.ext, hp.mj, hp.mp, hp.eb, hp.len, fun x hx => ?_, fun t ht hlv => ?_⟩
    ·obtain ⟨y, g1, g2⟩ := hE.old x hx
     obtain ⟨z, g3, g4⟩ := hp.old y g1
     exact ⟨z, g3, g4.trans g2⟩
    ·rcases List.mem_cons.1 ht with rfl | ht
     ·obtain ⟨y, g1, g2⟩ := hE.new
      obtain ⟨z, g3, g4⟩ := hp.old y g1
      obtain ⟨ox, hox⟩ := hp.ext
      exact ⟨z, g3, j, s, by rw [g4, g2, hvj], by rw [hox, List.getElem?_append_left (List.getElem?_eq_some_iff.1 hos).1]; exact hos, by omega⟩
     ·exact hp.new t ht hlv
   ·rename_i hv
    have hno := mF_none hv
    have hv' := mT (v := (o.length : Int)) hv
    have h3' : MJ n c live (o ++ [to]) := by
     refine ⟨fun s hs => ?_, fun s hs => ?_, ?_⟩
     ·rcases List.mem_append.1 hs with hs | hs
      ·exact h3.rng s hs
      ·rw [List.mem_singleton.1 hs]; exact ⟨t0, t1⟩
     ·rcases List.mem_append.1 hs with hs | hs
      ·exact h3.lv s hs
      ·rw [List.mem_singleton.1 hs, cx hy]; exact hy1
     ·rw [List.map_append, List.nodup_append]
      refine ⟨h3.nd, by simp, fun a ha b hb => ?_⟩
      obtain ⟨s, hs, rfl⟩ := List.mem_map.1 ha
      simp only [List.map_cons, List.map_nil, List.mem_singleton] at hb
      subst hb
      intro e
      exact hno s hs (by rw [e])
    rw [← mF_app] at hv'
    refine aZ (by omega) (ar (by omega) ?_)
    rw [← mF_app]
    refine an (zl h (by omega) hv' h5 h4) fun e' hE => ?_
    rw [e1]
    have hlen := hE.len
    refine (mZ h hn hc hlt hl (r := r) (i := i + 1) (o := o ++ [to]) (e := e') (by omega) hr2 h3' (hE.eb h4) (by omega)).mono fun p hp => ?_
    obtain ⟨ox, hox⟩ := hp.ext
    refine ⟨⟨to :: ox, by rw [hox]; simp⟩, hp.mj, hp.mp, hp.eb, hp.len, fun x hx => ?_, fun t ht hlv => ?_⟩
    ·obtain ⟨y, g1, g2⟩ := hE.old x hx
     obtain ⟨z, g3, g4⟩ := hp.old y g1
     exact ⟨z, g3, g4.trans g2⟩
    ·rcases List.mem_cons.1 ht with rfl | ht
     ·obtain ⟨y, g1, g2⟩ := hE.new
      obtain ⟨z, g3, g4⟩ := hp.old y g1
      exact ⟨z, g3, o.length, t, by rw [g4, g2], by rw [hox, List.append_assoc, List.getElem?_append_right (Nat.le_refl _), Nat.sub_self]; rfl, rfl⟩
     ·exact hp.new t ht hlv
  ·rw [e1]
   refine (mZ h hn hc hlt hl (r := r) (i := i + 1) (o := o) (e := e) (by omega) hr2 h3 h4 (by omega)).mono fun p hp => ?_
   refine ⟨hp.ext, hp.mj, hp.mp, hp.eb, hp.len, hp.old, fun t ht hlv => ?_⟩
   rcases List.mem_cons.1 ht with rfl | ht
   ·rw [cx hy] at hlv; exact absurd hlv hy1
   ·exact hp.new t ht hlv
structure CS (next : List (List Int)) (acc : List Bool) (c : List Nat) (live : List Bool) (o : List Int) (s : Int) (st : Stt) : Prop where
 acc : st.acc = acc.getD s.toNat false
 len : st.aL.length ≤ 256
 eb : ∀ y ∈ st.aL, EB y
 lead : ∀ to ∈ next.getD s.toNat [], live.getD (dQ c to) false = true → Leads c o st.aL to
theorem CS.ext {next : List (List Int)} {acc : List Bool} {c : List Nat} {live : List Bool} {o : List Int} {s : Int} {st : Stt} (h : CS next acc c live o s st) (ox : List Int) : CS next acc c live (o ++ ox) s st :=
 ⟨h.acc, h.len, h.eb, fun to h1 h2 => by
  obtain ⟨y, hy, j, s', g1, g2, g3⟩ := h.lead to h1 h2
  exact ⟨y, hy, j, s', g1, by rw [List.getElem?_append_left (List.getElem?_eq_some_iff.1 g2).1]; exact g2, g3⟩⟩
theorem zn {l : List Stt} {bJ : List Int} (h : wH l bJ) {n : Nat} {next : List (List Int)} {acc : List Bool} (hT : Tb n bJ.length next) (hn : n < 1000000000) (ha : acc.length = n) {c : List Nat} {live : List Bool} (hc : c.length = n) (hlt : ∀ s, s < n → c.getD s 0 < n) (hl : live.length = n) :
  ∀ {f : Nat} {o : List Int} {out : List Stt}, MJ n c live o → out.length ≤ o.length → n + 1 ≤ f + out.length → (∀ (j : Nat) (st : Stt), out[j]? = some st → ∃ s, o[j]? = some s ∧ CS next acc c live o s st) →
   Tot (canF bJ next acc (NI c) live f out.length o (mF c o) out) fun r => ∃ ox, MJ n c live (o ++ ox) ∧ r.length = (o ++ ox).length ∧ ∀ (j : Nat) (st : Stt), r[j]? = some st → ∃ s, (o ++ ox)[j]? = some s ∧ CS next acc c live (o ++ ox) s st
 | 0, o, out, h1, h2, h3, _ => by have := h1.le hlt; omega
 | f + 1, o, out, h1, h2, h3, h4 => by
  have hk := h.len
  have ho := h1.le hlt
  unfold canF
  refine ar (by omega) (aq (fun h5 => ?_) fun h5 => ah ⟨[], by rw [List.append_nil]; exact h1, by rw [List.append_nil]; omega, by rw [List.append_nil]; exact h4⟩)
  refine aP (by omega) (by omega) fun s hs hsm => ?_
  obtain ⟨s0, s1⟩ := h1.rng s hsm
  refine aP s0 (by omega) fun a hacc _ => aP (by omega) (by omega) fun s' hs' _ => ?_
  rw [hs] at hs'
  cases hs'
  refine aP s0 (by rw [hT.len]; exact s1) fun row hrow hrm => ar (by rw [hT.row row hrm]; omega) ?_
  rw [show ((out.length : Nat) : Int).toNat = out.length by omega] at hs
  refine an (mZ h hn hc hlt hl (r := row) (i := 0) (o := o) (e := []) (by rw [hT.row row hrm]; omega) (hT.rng row hrm) h1 (fun y hy => by cases hy) (Nat.le_refl _)) fun p hp => ?_
  obtain ⟨p1, p2, p3⟩ := p
  obtain ⟨⟨ox, hox⟩, g2, g3, g4, g5, g6, g7⟩ := hp
  simp only at hox g2 g3 g4 g5 g6 g7 ⊢
  subst hox g3
  refine aZ (by omega) ?_
  have e1 : ((out.length : Int) + 1) = (((out ++ [(⟨a, p3⟩ : Stt)]).length : Nat) : Int) := by simp
  rw [e1]
  have hfin : ∀ (j : Nat) (st : Stt), (out ++ [(⟨a, p3⟩ : Stt)])[j]? = some st → ∃ s, (o ++ ox)[j]? = some s ∧ CS next acc c live (o ++ ox) s st := fun j st hj => by
   rcases Nat.lt_trichotomy j out.length with g | g | g
   ·rw [List.getElem?_append_left g] at hj
    obtain ⟨s', r1, r2⟩ := h4 j st hj
    exact ⟨s', by rw [List.getElem?_append_left (by omega)]; exact r1, r2.ext ox⟩
   ·subst g
    rw [List.getElem?_append_right (Nat.le_refl _), Nat.sub_self] at hj
    cases hj
    refine ⟨s, by rw [List.getElem?_append_left (by omega)]; exact hs, ?_, (by show p3.length ≤ 256; omega), g4, fun to ht hlv => g7 to (by rwa [cx hrow] at ht) hlv⟩
    exact (cx hacc).symm
   ·rw [List.getElem?_append_right (by omega), show j - out.length = (j - out.length - 1) + 1 by omega] at hj; cases hj
  refine Tot.mono (zn h hT hn ha hc hlt hl (f := f) (o := o ++ ox) (out := out ++ [⟨a, p3⟩]) g2 (by simp; omega) (by simp; omega) hfin) ?_
  rintro r ⟨oy, q1, q2, q3⟩
  exact ⟨ox ++ oy, by rw [← List.append_assoc]; exact q1, by rw [← List.append_assoc]; exact q2, by rw [← List.append_assoc]; exact q3⟩
def Lv (l : List Stt) : Nat → Nat → Prop
 | 0, s => ∃ x, l[s]? = some x ∧ x.acc = true
 | k + 1, s => ∃ x, l[s]? = some x ∧ ∃ e ∈ x.aL, 0 ≤ e.to ∧ Lv l k e.to.toNat
structure Canon (n : Nat) (r : List Stt) : Prop extends AB n r where
 live : ∀ j, j < r.length → ∃ k, Lv r k j
theorem Canon.nil (n : Nat) : Canon n [] := ⟨AB.nil n, fun j h => by cases h⟩
theorem can_tot {l : List Stt} {bJ : List Int} (h : wH l bJ) {n : Nat} {next : List (List Int)} {acc : List Bool} (hT : Tb n bJ.length next) (hn0 : 0 < n) (hn : n < 1000000000) (ha : acc.length = n) {c : List Nat} (hc : c.length = n) (hlt : ∀ s, s < n → c.getD s 0 < n) (hS : Stab n next c) (hA : ∀ s t, s < n → t < n → c.getD s 0 = c.getD t 0 → acc.getD s false = acc.getD t false) :
  Tot (canM bJ next acc (NI c)) (Canon n) := by
 unfold canM
 refine an (liveM_tot hT hn h.len ha hc hlt hS hA) fun live hL => ?_
 have hc0 : (NI c)[0]? = some ((dQ c 0 : Nat) : Int) := by
  unfold dQ
  rw [List.getElem?_map, List.getElem?_eq_getElem (by omega), cx (List.getElem?_eq_getElem (by omega))]
  rfl
 have h0 := hlt 0 hn0
 refine aP (by omega) (by rw [List.length_map]; omega) fun x hx _ => ?_
 rw [show (0 : Int).toNat = 0 from rfl, hc0] at hx
 cases hx
 have h0' : dQ c 0 < n := h0
 refine aP (by omega) (by rw [hL.len]; omega) fun b hb _ => ?_
 rw [show (((dQ c 0 : Nat) : Int)).toNat = dQ c 0 by omega] at hb
 refine aq (fun hb1 => ?_) fun _ => ah (Canon.nil n)
 refine aP (by omega) (by rw [List.length_map]; omega) fun x hx _ => ?_
 rw [show (0 : Int).toNat = 0 from rfl, hc0] at hx
 cases hx
 have hmj : MJ n c live [0] := ⟨fun s hs => by rw [List.mem_singleton.1 hs]; omega, fun s hs => by rw [List.mem_singleton.1 hs, cx hb]; exact hb1, by simp⟩
 have e0 : [(((dQ c 0 : Nat) : Int), (0 : Int))] = mF c [0] := rfl
 rw [e0, hT.len]
 refine (zn h hT hn ha hc hlt hL.len (f := n + 1) (o := [0]) (out := []) hmj (by simp) (by simp) fun j st hj => by cases hj).mono fun r ⟨ox, q1, q2, q3⟩ => ?_
 have hor := q1.le hlt
 have key : ∀ (k j : Nat) (s : Int), ([0] ++ ox)[j]? = some s → LvT next acc k s.toNat → Lv r k j := fun k => by
  induction k with
  | zero =>
   intro j s hs hv
   have hj : j < r.length := by rw [q2]; exact (List.getElem?_eq_some_iff.1 hs).1
   obtain ⟨s', g1, g2⟩ := q3 j _ (List.getElem?_eq_getElem hj)
   rw [hs] at g1
   cases g1
   exact ⟨_, List.getElem?_eq_getElem hj, by rw [g2.acc]; exact hv⟩
  | succ k ih =>
   intro j s hs hv
   have hj : j < r.length := by rw [q2]; exact (List.getElem?_eq_some_iff.1 hs).1
   obtain ⟨s', g1, g2⟩ := q3 j _ (List.getElem?_eq_getElem hj)
   rw [hs] at g1
   cases g1
   obtain ⟨to, t1, t2⟩ := hv
   have hsn := q1.rng s (List.mem_of_getElem? hs)
   have hto := hT.rng _ (hT.at_ (s := s.toNat) (by omega)).1 to t1
   have hlv : live.getD (dQ c to) false = true := hL.all hT k to.toNat (by omega) t2
   obtain ⟨y, hy, j', s', e1, e2, e3⟩ := g2.lead to t1 hlv
   have hsn' := q1.rng s' (List.mem_of_getElem? e2)
   refine ⟨_, List.getElem?_eq_getElem hj, y, hy, by omega, ?_⟩
   rw [e1, show ((j' : Nat) : Int).toNat = j' by omega]
   exact ih j' s' e2 (pT hT hS hA k to.toNat s'.toNat (by omega) (by omega) e3.symm t2)
 refine ⟨⟨by omega, fun st hst => ?_, fun st hst => ?_⟩, fun j hj => ?_⟩
 ·obtain ⟨j, hj⟩ := List.mem_iff_getElem?.1 hst
  obtain ⟨s, _, g⟩ := q3 j st hj
  exact g.len
 ·obtain ⟨j, hj⟩ := List.mem_iff_getElem?.1 hst
  obtain ⟨s, _, g⟩ := q3 j st hj
  exact g.eb
 ·obtain ⟨s, g1, g2⟩ := q3 j _ (List.getElem?_eq_getElem hj)
  have hm := List.mem_of_getElem? g1
  obtain ⟨t, k, t1, t2, t3⟩ := hL.snd _ (q1.lv s hm)
  have := q1.rng s hm
  exact ⟨k, key k j s g1 (pT hT hS hA k t s.toNat t1 (by omega) t2 t3)⟩
theorem min_tot {l : List Stt} {n : Nat} (h : AB n l) (hn : n < 900000000) : Tot (minM l) fun p => Canon (l.length + 1) p.1 ∧ (p.2 = 0 → WF l) := by
 have hl := h.len
 unfold minM
 refine an (wf_tot h (by omega)) fun ok hok => aq (fun h1 => ?_) fun _ => ah ⟨Canon.nil _, fun e => by cases e⟩
 have hw := hok h1
 refine aq (fun _ => ah ⟨Canon.nil _, fun _ => hw⟩) fun h0 => ?_
 refine an (comp_tot h hn) fun t ht => ?_
 have hT := ht.tb hw
 have ha : t.2.2.length = l.length + 1 := by rw [ht.acc]; simp
 refine an (refM_tot hT (by omega) (by omega) ht.bJ.len ha) fun cls ⟨c, m, e, hP, hS, hA⟩ => ?_
 subst e
 refine an (can_tot ht.bJ hT (by omega) (by omega) ha hP.len (fun s hs => Nat.lt_of_lt_of_le (hP.lt s hs) hP.le) hS hA) fun r hr => ah ⟨hr, fun _ => hw⟩
structure Gd (n : Nat) (l : List Stt) : Prop extends AB n l where
 wf : WF l
 live : ∀ j, j < l.length → ∃ k, Lv l k j
theorem Gd.nil (n : Nat) : Gd n [] := ⟨AB.nil n, fun s h => (by cases h), fun j h => by cases h⟩
theorem Gd.mono {n m : Nat} {l : List Stt} (h : Gd n l) (hn : n ≤ m) : Gd m l := ⟨h.toAB.mono hn, h.wf, h.live⟩
theorem yQ {α : Type} {g : α → α → Option Bool} {b : List α} (hg : ∀ x y, y ∈ b → Tot (g x y) fun r => r = true → x = y) : ∀ {r : List α} {i : Nat}, i + r.length = b.length → Tot (iA g b r i) fun t => t = true → r = b.drop i
 | [], i, h => ah fun _ => by
  rw [List.length_nil] at h
  exact (List.drop_eq_nil_of_le (by omega)).symm
 | x :: r, i, h => by
  rw [List.length_cons] at h
  unfold iA
  refine aP (by omega) (by omega) fun y hy hm => an (hg x y hm) fun t ht => aq (fun h1 => ?_) fun _ => ah fun h => by cases h
  have e1 : ((i : Int) + 1) = ((i + 1 : Nat) : Int) := by omega
  rw [e1]
  refine (yQ hg (r := r) (i := i + 1) (by omega)).mono fun t h2 h3 => ?_
  rw [show ((i : Int)).toNat = i by omega] at hy
  have hi : i < b.length := by omega
  rw [List.drop_eq_getElem_cons hi, h2 h3, ht h1]
  rw [List.getElem?_eq_getElem hi] at hy
  cases hy
  rfl
theorem eqFM_tot {α : Type} {g : α → α → Option Bool} {a b : List α} (hg : ∀ x y, y ∈ b → Tot (g x y) fun r => r = true → x = y) (ha : a.length ≤ 1000000000) : Tot (jm g a b) fun t => t = true → a = b := by
 unfold jm
 refine aq (fun h => ar ha ?_) fun _ => ah fun h => by cases h
 exact yQ hg (r := a) (i := 0) (by omega)
theorem yS {x y : Sv.Edge} (h : edgeEq x y = true) : x = y := by
 unfold edgeEq at h
 simp only [Bool.and_eq_true, decide_eq_true_eq, and_true] at h
 obtain ⟨h1, h2, h3⟩ := h
 cases x
 cases y
 simp only at h1 h2 h3
 rw [h1, h2, h3]
theorem oV {b : List Sv.Edge} : ∀ {r : List Sv.Edge} {i : Nat}, i + r.length = b.length → Tot (iV b r i) fun t => t = true → r = b.drop i
 | [], i, h => ah fun _ => by
  rw [List.length_nil] at h
  exact (List.drop_eq_nil_of_le (by omega)).symm
 | x :: r, i, h => by
  rw [List.length_cons] at h
  unfold iV
  refine aP (by omega) (by omega) fun y hy hm => aq (fun h1 => ?_) fun _ => ah fun h => by cases h
  have e1 : ((i : Int) + 1) = ((i + 1 : Nat) : Int) := by omega
  rw [e1]
  refine (oV (r := r) (i := i + 1) (by omega)).mono fun t h2 h3 => ?_
  rw [show ((i : Int)).toNat = i by omega] at hy
  have hi : i < b.length := by omega
  rw [List.drop_eq_getElem_cons hi, h2 h3, yS h1]
  rw [List.getElem?_eq_getElem hi] at hy
  cases hy
  rfl
theorem same1_tot {x y : Stt} (h : x.aL.length ≤ 1000000000) : Tot (xv x y) fun t => t = true → x = y := by
 unfold xv
 refine aq (fun h1 => ?_) fun _ => ah fun h => by cases h
 unfold pQ
 refine aq (fun h2 => ar h ((oV (r := x.aL) (i := 0) (by omega)).mono fun t h3 h4 => ?_)) fun _ => ah fun h => by cases h
 have := h3 h4
 rw [List.drop_zero] at this
 cases x
 cases y
 simp only at this h1
 rw [this, eq_of_beq h1]
theorem uq {α : Type} {g : α → α → Option Bool} {b : List α} : ∀ {r : List α} {i : Nat}, (∀ x ∈ r, ∀ y ∈ b, Tot (g x y) fun r => r = true → x = y) → i + r.length = b.length → Tot (iA g b r i) fun t => t = true → r = b.drop i
 | [], i, _, h => ah fun _ => by
  rw [List.length_nil] at h
  exact (List.drop_eq_nil_of_le (by omega)).symm
 | x :: r, i, hg, h => by
  rw [List.length_cons] at h
  unfold iA
  refine aP (by omega) (by omega) fun y hy hm => an (hg x (List.mem_cons_self ..) y hm) fun t ht => aq (fun h1 => ?_) fun _ => ah fun h => by cases h
  have e1 : ((i : Int) + 1) = ((i + 1 : Nat) : Int) := by omega
  rw [e1]
  refine (uq (r := r) (i := i + 1) (fun x hx => hg x (List.mem_cons_of_mem _ hx)) (by omega)).mono fun t h2 h3 => ?_
  rw [show ((i : Int)).toNat = i by omega] at hy
  have hi : i < b.length := by omega
  rw [List.drop_eq_getElem_cons hi, h2 h3, ht h1]
  rw [List.getElem?_eq_getElem hi] at hy
  cases hy
  rfl
theorem eqFM_totM {α : Type} {g : α → α → Option Bool} {a b : List α} (hg : ∀ x ∈ a, ∀ y ∈ b, Tot (g x y) fun r => r = true → x = y) (ha : a.length ≤ 1000000000) : Tot (jm g a b) fun t => t = true → a = b := by
 unfold jm
 refine aq (fun h => ar ha ?_) fun _ => ah fun h => by cases h
 exact uq (r := a) (i := 0) hg (by omega)
theorem nH {n : Nat} {a b : List Stt} (h : AB n a) (hn : n ≤ 1000000000) : Tot (tL a b) fun t => t = true → a = b :=
 eqFM_totM (fun x hx y _ => same1_tot (by have := h.row x hx; omega)) (by have := h.len; omega)
theorem hX {l : List Stt} {n : Nat} (h : AB n l) (hn : n < 900000000) : Tot (lG l) fun b => b = true → Gd n l := by
 unfold lG
 refine an (min_tot h hn) fun p ⟨h1, h2⟩ => aq (fun h3 => ?_) fun _ => ah fun h => by cases h
 refine (nH h (by omega)).mono fun t ht e => ⟨h, h2 h3, ?_⟩
 have := ht e
 rw [this]
 exact h1.live
theorem mQ {l : List Stt} {n : Nat} (h : AB n l) (hn : n < 900000000) : Tot (fI l) (Gd n) := by
 unfold fI
 refine an (hX h hn) fun b hb => aq (fun h1 => ah (hb h1)) fun _ => ah (Gd.nil n)
theorem y8 : ∀ {l out : List Stt} {n : Nat}, n ≤ 1000000000 → (∀ s ∈ l, s.aL.length ≤ 256) → out.length + l.length ≤ n → Tot (copL l out) fun r => r = out ++ l
 | [], out, n, _, _, _ => ah (by simp)
 | s :: r, out, n, hn, h, h1 => by
  rw [List.length_cons] at h1
  unfold copL wc
  rw [Option.bind_assoc]
  have := h s (List.mem_cons_self ..)
  refine ar (by omega) ?_
  rw [Option.bind_some]
  refine aZ (by omega) ((y8 (l := r) (n := n) hn (fun s hs => h s (List.mem_cons_of_mem _ hs)) (by simp; omega)).mono fun q hq => ?_)
  rw [hq]
  simp
theorem copied_tot {l : List Stt} {n : Nat} (h : AB n l) (hn : n ≤ 1000000000) : Tot (gT l) fun r => r = l := by
 unfold gT
 have := h.len
 exact ar (by omega) ((y8 (n := n) hn h.row (by simp; omega)).mono fun r hr => by rw [hr]; rfl)
theorem xb {n : Nat} {l : List Stt} (h : Gd n l) (hn : n ≤ 1000000000) {s b : Int} : Tot (tI l s b) fun x => -1 ≤ x ∧ x < l.length := by
 unfold tI
 refine aq (fun _ => ah (by omega)) fun h1 => aq (fun _ => ah (by omega)) fun h2 => ?_
 refine aP (by omega) (by omega) fun x hx hm => ar (by have := h.row x hm; omega) ?_
 have key : ∀ es : List Sv.Edge, (∀ e ∈ es, 0 ≤ e.to ∧ e.to < l.length) → Tot (oz b es) fun x => -1 ≤ x ∧ x < l.length := fun es => by
  induction es with
  | nil => intro _; exact ah (by omega)
  | cons e r ih =>
   intro he
   have h3 := he e (List.mem_cons_self ..)
   have h4 := ih fun e' h' => he e' (List.mem_cons_of_mem _ h')
   unfold oz
   exact aq (fun _ => aq (fun _ => ah (by omega)) fun _ => h4) fun _ => h4
 exact key x.aL fun e he => ((h.wf x hm).one e he).2
theorem pe {l : List Stt} {s : Int} : Tot (iE l s) fun _ => True := by
 unfold iE
 exact aq (fun h1 => aq (fun h2 => aP h1 h2 fun x _ _ => ah trivial) fun _ => ah trivial) fun _ => ah trivial
theorem oc : ∀ {es : List Sv.Edge} {a : List Bool}, (∀ e ∈ es, EB e) → a.length = 256 → a[0]? = some true → Tot (fL es a) fun r => r.length = 256 ∧ r[0]? = some true
 | [], a, _, h1, h2 => ah ⟨h1, h2⟩
 | e :: r, a, he, h1, h2 => by
  obtain ⟨b1, b2, b3, b4⟩ := he e (List.mem_cons_self ..)
  have hr := fun e' h' => he e' (List.mem_cons_of_mem _ h')
  have st : ∀ (a : List Bool) (j : Nat), a.length = 256 → a[0]? = some true → j < 256 → (a.set j true)[0]? = some true := fun a j h1 h2 h3 => (qq (by omega) 0).2 (.inl h2)
  unfold fL
  refine fC b1 (by omega) h1 (aq (fun h3 => ?_) fun _ => oc hr (by rw [List.length_set]; exact h1) (st a _ h1 h2 (by omega)))
  refine ar ⟨b3, b4⟩ (fC (by omega) (by omega) (by rw [List.length_set]; exact h1) ?_)
  exact oc hr (by rw [List.length_set, List.length_set]; exact h1) (st _ _ (by rw [List.length_set]; exact h1) (st a _ h1 h2 (by omega)) (by omega))
theorem uw {n : Nat} {l : List Stt} (h : AB n l) {s : Int} {a : List Bool} (h1 : a.length = 256) (h2 : a[0]? = some true) : Tot (yX l s a) fun r => r.length = 256 ∧ r[0]? = some true := by
 unfold yX
 refine aq (fun _ => ah ⟨h1, h2⟩) fun h3 => aq (fun _ => ah ⟨h1, h2⟩) fun h4 => ?_
 exact aP (by omega) (by omega) fun x _ hm => ar (by have := h.row x hm; omega) (oc (h.eb x hm) h1 h2)
theorem xR {x y : dY} : pairEq x y = true ↔ x = y := by
 unfold pairEq
 simp only [Bool.and_eq_true, decide_eq_true_eq, and_true]
 cases x
 cases y
 simp
theorem mM {p : dY} : ∀ {r : List dY} {i : Nat}, Tot (gq p r i) fun k => (k = -1 ∧ ∀ q ∈ r, q ≠ p) ∨ ((i : Int) ≤ k ∧ k < i + r.length)
 | [], i => ah (.inl ⟨rfl, fun q hq => by cases hq⟩)
 | x :: r, i => by
  unfold gq
  refine aq (fun h => ah (.inr (by simp; omega))) fun h => ?_
  have e1 : ((i : Int) + 1) = ((i + 1 : Nat) : Int) := by omega
  rw [e1]
  refine (mM (r := r) (i := i + 1)).mono fun k hk => ?_
  rcases hk with ⟨h1, h2⟩ | h1
  ·refine .inl ⟨h1, fun q hq => ?_⟩
   rcases List.mem_cons.1 hq with rfl | hq
   ·exact fun e => h (xR.2 e.symm)
   ·exact h2 q hq
  ·refine .inr ?_
   rw [List.length_cons]
   omega
def codeP (B : Nat) (p : dY) : Nat := (p.a + 1).toNat * B + (p.b + 1).toNat
structure PJ (A B : Nat) (l : List dY) : Prop where
 rng : ∀ p ∈ l, -1 ≤ p.a ∧ p.a < A ∧ -1 ≤ p.b ∧ p.b < B
 nd : l.Nodup
theorem PJ.le {A B : Nat} {l : List dY} (h : PJ A B l) : l.length ≤ (A + 1) * (B + 1) := by
 have hlt : ∀ p ∈ l, codeP (B + 1) p < (A + 1) * (B + 1) := fun p hp => by
  obtain ⟨h1, h2, h3, h4⟩ := h.rng p hp
  unfold codeP
  have h5 : (p.a + 1).toNat + 1 ≤ A + 1 := by omega
  have h6 := Nat.mul_le_mul_right (B + 1) h5
  rw [Nat.succ_mul] at h6
  omega
 have := ik (n := (A + 1) * (B + 1)) (l := l.map (codeP (B + 1))) ?_ fun x hx => by
  obtain ⟨p, hp, rfl⟩ := List.mem_map.1 hx
  exact hlt p hp
 ·rwa [List.length_map] at this
 ·rw [List.nodup_iff_pairwise_ne, List.pairwise_map]
  refine (List.nodup_iff_pairwise_ne.1 h.nd).imp_of_mem fun {p q} hp hq hne e => hne ?_
  obtain ⟨h1, h2, h3, h4⟩ := h.rng p hp
  obtain ⟨g1, g2, g3, g4⟩ := h.rng q hq
  unfold codeP at e
  have m1 : ((p.a + 1).toNat * (B + 1) + (p.b + 1).toNat) / (B + 1) = (p.a + 1).toNat := by
   rw [Nat.mul_comm, Nat.mul_add_div (by omega), Nat.div_eq_of_lt (by omega)]; rfl
  have m2 : ((q.a + 1).toNat * (B + 1) + (q.b + 1).toNat) / (B + 1) = (q.a + 1).toNat := by
   rw [Nat.mul_comm, Nat.mul_add_div (by omega), Nat.div_eq_of_lt (by omega)]; rfl
  rw [e, m2] at m1
  rw [m1] at e
  have ea : p.a = q.a := by omega
  have eb : p.b = q.b := by omega
  cases p
  cases q
  simp only at ea eb
  rw [ea, eb]
theorem PJ.push {A B : Nat} {l : List dY} (h : PJ A B l) {p : dY} (hp : -1 ≤ p.a ∧ p.a < A ∧ -1 ≤ p.b ∧ p.b < B) (hn : ∀ q ∈ l, q ≠ p) : PJ A B (l ++ [p]) :=
 ⟨fun q hq => by
  rcases List.mem_append.1 hq with hq | hq
  ·exact h.rng q hq
  ·rw [List.mem_singleton.1 hq]; exact hp, by
  rw [List.nodup_append]
  exact ⟨h.nd, by simp, fun q hq r hr => by rw [List.mem_singleton.1 hr]; exact hn q hq⟩⟩
theorem nK {α : Type} {e : List Sv.Edge} {c : Nat} (hc : c < 256) {f : List Sv.Edge → Option α} {Q : α → Prop} (hne : e ≠ []) (hb : ∀ y ∈ e, EB y) (hl : e.length ≤ 256) (k : ∀ e' : List Sv.Edge, e' ≠ [] → (∀ y ∈ e', EB y) → e'.length = e.length → Tot (f e') Q) :
  Tot ((aN e).bind fun _ => (nP e (e.length - 1) fun q => ⟨q.lo, c, q.to⟩).bind f) Q := by
 have h0 : 0 < e.length := List.length_pos_iff.2 hne
 refine ar (by omega) (u4 (by omega) (by omega) fun q hq hm => k _ ?_ (fun y hy => ?_) (by rw [List.length_set]))
 ·exact List.ne_nil_of_length_pos (by rw [List.length_set]; exact h0)
 ·rcases List.mem_or_eq_of_mem_set hy with hy | rfl
  ·exact hb y hy
  ·obtain ⟨b1, b2, b3, b4⟩ := hb q hm
   exact ⟨b1, b2, by show (0 : Int) ≤ (c : Int); omega, by show (c : Int) < 256; omega⟩
theorem kH {n : Nat} {a b : List Stt} (ha : Gd n a) (hb : Gd n b) (hn : n ≤ 20000) {p : dY} {at' : List Bool} (h1 : at'.length = 256) (h2 : at'[0]? = some true) :
  ∀ {m c : Nat} {l : List dY} {e : List Sv.Edge}, m + c = 256 → PJ (a.length + 1) (b.length + 1) l → (∀ y ∈ e, EB y) → e.length ≤ c → (0 < c → e ≠ []) → Tot (cI a b p at' m c l e) fun q => (∃ lx, q.1 = l ++ lx) ∧ PJ (a.length + 1) (b.length + 1) q.1 ∧ (∀ y ∈ q.2, EB y) ∧ q.2.length ≤ 256
 | 0, c, l, e, h, h3, h4, h5, h6 => ah ⟨⟨[], by simp⟩, h3, h4, by show e.length ≤ 256; omega⟩
 | m + 1, c, l, e, h, h3, h4, h5, h6 => by
  have hA := ha.len
  have hB := hb.len
  have hll : l.length ≤ 400080004 := by
   have := h3.le
   have h7 : (a.length + 1 + 1) * (b.length + 1 + 1) ≤ 20002 * 20002 := Nat.mul_le_mul (by omega) (by omega)
   omega
  have e1 : ((c : Int) + 1) = ((c + 1 : Nat) : Int) := by omega
  unfold cI
  refine u5 (by omega) (by omega) h1 fun x hx => ?_
  rw [show ((c : Int)).toNat = c by omega] at hx
  rw [e1]
  have hEB : ∀ v : Int, EB ⟨c, 0, v⟩ := fun v => ⟨by show (0 : Int) ≤ (c : Int); omega, by show (c : Int) < 256; omega, by show (0 : Int) ≤ 0; omega, by show (0 : Int) < 256; omega⟩
  have hadd : ∀ v : Int, ∀ y ∈ e ++ [(⟨c, 0, v⟩ : Sv.Edge)], EB y := fun v y hy => by
   rcases List.mem_append.1 hy with hy | hy
   ·exact h4 y hy
   ·rw [List.mem_singleton.1 hy]; exact hEB v
  refine aq (fun hx1 => ?_) fun hx1 => ?_
  ·refine an (xb ha (by omega)) fun x1 hx2 => an (xb hb (by omega)) fun y1 hy2 => ?_
   have hidx : Tot (mN l ⟨x1, y1⟩) fun k => (k = -1 ∧ ∀ q ∈ l, q ≠ ⟨x1, y1⟩) ∨ (0 ≤ k ∧ k < l.length) := by
    unfold mN
    refine ar (by omega) ((mM (r := l) (i := 0)).mono fun k hk => ?_)
    rcases hk with hk | hk
    ·exact .inl hk
    ·exact .inr ⟨by omega, by omega⟩
   refine an hidx fun k hk => aq (fun hk1 => ?_) fun hk1 => ?_
   ·have hno : ∀ q ∈ l, q ≠ ⟨x1, y1⟩ := by
     rcases hk with ⟨_, g⟩ | g
     ·exact g
     ·omega
    have h3' : PJ (a.length + 1) (b.length + 1) (l ++ [⟨x1, y1⟩]) := h3.push ⟨hx2.1, by show x1 < _; omega, hy2.1, by show y1 < _; omega⟩ hno
    refine aZ (by omega) (aZ (by omega) (nK (by omega) (by simp) (hadd _) (by simp; omega) fun e' g1 g2 g3 => ?_))
    refine (kH ha hb hn h1 h2 (m := m) (c := c + 1) (by omega) h3' g2 (by rw [g3]; simp; omega) fun _ => g1).mono fun q ⟨⟨lx, q1⟩, q2, q3, q4⟩ => ⟨⟨⟨x1, y1⟩ :: lx, by rw [q1]; simp⟩, q2, q3, q4⟩
   ·refine aZ (by omega) (nK (by omega) (by simp) (hadd _) (by simp; omega) fun e' g1 g2 g3 => ?_)
    exact kH ha hb hn h1 h2 (m := m) (c := c + 1) (by omega) h3 g2 (by rw [g3]; simp; omega) fun _ => g1
  ·have hc0 : 0 < c := by
    rcases Nat.eq_zero_or_pos c with rfl | g
    ·rw [h2] at hx; cases hx; exact absurd rfl hx1
    ·exact g
   refine nK (by omega) (h6 hc0) h4 (by omega) fun e' g1 g2 g3 => ?_
   exact kH ha hb hn h1 h2 (m := m) (c := c + 1) (by omega) h3 g2 (by rw [g3]; omega) fun _ => g1
theorem tP {n : Nat} {a b : List Stt} (ha : Gd n a) (hb : Gd n b) (hn : n ≤ 20000) {is : Bool → Bool → Option Bool} (his : ∀ x y, Tot (is x y) fun _ => True) :
  ∀ {f : Nat} {l : List dY} {out : List Stt}, PJ (a.length + 1) (b.length + 1) l → AB out.length out → out.length ≤ l.length → (a.length + 2) * (b.length + 2) + 1 ≤ f + out.length → Tot (qP a b is f out.length l out) fun r => AB ((a.length + 2) * (b.length + 2)) r
 | 0, l, out, h1, h2, h3, h4 => by have : l.length ≤ (a.length + 2) * (b.length + 2) := h1.le; omega
 | f + 1, l, out, h1, h2, h3, h4 => by
  have hA := ha.len
  have hB := hb.len
  have hle : l.length ≤ (a.length + 2) * (b.length + 2) := h1.le
  have hll : (a.length + 2) * (b.length + 2) ≤ 20002 * 20002 := Nat.mul_le_mul (by omega) (by omega)
  unfold qP
  refine ar (by omega) (aq (fun h5 => ?_) fun h5 => ah ⟨by omega, h2.row, h2.eb⟩)
  refine aP (by omega) (by omega) fun p hp hm => an pe fun x _ => an pe fun y _ => an (his x y) fun acc _ => ?_
  refine an (uw (a := jZ) ha.toAB (by unfold jZ; rw [List.length_cons, List.length_replicate]) rfl) fun a1 ⟨g1, g2⟩ => an (uw hb.toAB g1 g2) fun a2 ⟨g3, g4⟩ => ?_
  refine an (kH ha hb (by omega) g3 g4 (m := 256) (c := 0) (l := l) (e := []) rfl h1 (fun y hy => by cases hy) (Nat.le_refl _) fun h => by omega) fun q ⟨⟨lx, q1⟩, q2, q3, q4⟩ => ?_
  refine aZ (by omega) ?_
  have e1 : ((out.length : Int) + 1) = (((out ++ [(⟨acc, q.2⟩ : Stt)]).length : Nat) : Int) := by simp
  rw [e1]
  have hq := congrArg List.length q1
  rw [List.length_append] at hq
  refine tP ha hb hn his (f := f) (l := q.1) (out := out ++ [⟨acc, q.2⟩]) q2 ⟨Nat.le_refl _, fun s hs => ?_, fun s hs => ?_⟩ (by simp; omega) (by simp; omega)
  ·rcases List.mem_append.1 hs with hs | hs
   ·exact h2.row s hs
   ·rw [List.mem_singleton.1 hs]; exact q4
  ·rcases List.mem_append.1 hs with hs | hs
   ·exact h2.eb s hs
   ·rw [List.mem_singleton.1 hs]; exact q3
def gK (a b : List Stt) : Nat := (a.length + 2) * (b.length + 2) + 1
theorem jG {n : Nat} {a b : List Stt} (ha : AB n a) (hb : AB n b) (hn : n ≤ 20000) {is : Bool → Bool → Option Bool} (his : ∀ x y, Tot (is x y) fun _ => True) : Tot (gp is a b) (Canon (gK a b)) := by
 unfold gp
 have hgl : ∀ {l : List Stt}, AB n l → Tot (fI l) fun r => Gd n r ∧ r.length ≤ l.length := fun {l} h => by
  obtain ⟨r, e, hr⟩ := mQ h (by omega)
  refine ⟨r, e, hr, ?_⟩
  unfold fI at e
  obtain ⟨b, e1, _⟩ := hX h (by omega)
  rw [e1, Option.bind_some] at e
  split at e <;> cases e
  ·exact Nat.le_refl _
  ·exact Nat.zero_le _
 refine an (hgl ha) fun a' ⟨ha', la⟩ => an (hgl hb) fun b' ⟨hb', lb⟩ => ?_
 have hle : (a'.length + 2) * (b'.length + 2) ≤ (a.length + 2) * (b.length + 2) := Nat.mul_le_mul (by omega) (by omega)
 have h1 := ha.len
 have h2 := hb.len
 have hll : (a.length + 2) * (b.length + 2) ≤ 20002 * 20002 := Nat.mul_le_mul (by omega) (by omega)
 refine an (tP ha' hb' hn his (l := [⟨0, 0⟩]) (out := []) ⟨fun p hp => ?_, by simp⟩ (AB.nil 0) (by simp) (by simp)) fun out hout => ?_
 ·rw [List.mem_singleton.1 hp]
  show (-1 : Int) ≤ 0 ∧ (0 : Int) < (a'.length + 1 : Nat) ∧ (-1 : Int) ≤ 0 ∧ (0 : Int) < (b'.length + 1 : Nat)
  omega
 ·refine an (min_tot hout (by omega)) fun p ⟨hp, _⟩ => ah ?_
  have := hout.len
  exact ⟨hp.toAB.mono (by unfold gK; omega), hp.live⟩
theorem Canon.mono {n m : Nat} {l : List Stt} (h : Canon n l) (hn : n ≤ m) : Canon m l := ⟨h.toAB.mono hn, h.live⟩
theorem pG (x y : Bool) : Tot (or1 x y) fun _ => True := by unfold or1; split <;> exact ah trivial
theorem and1_tot (x y : Bool) : Tot (and1 x y) fun _ => True := by unfold and1; split <;> exact ah trivial
theorem iP (x y : Bool) : Tot (jJ x y) fun _ => True := by unfold jJ; split <;> exact ah trivial
theorem yF {l : List Stt} {n : Nat} (h : AB n l) (hn : n < 900000000) : Tot (fI l) fun r => Gd n r ∧ r.length ≤ l.length := by
 obtain ⟨r, e, hr⟩ := mQ h hn
 refine ⟨r, e, hr, ?_⟩
 unfold fI at e
 obtain ⟨b, e1, _⟩ := hX h hn
 rw [e1, Option.bind_some] at e
 split at e <;> cases e
 ·exact Nat.le_refl _
 ·exact Nat.zero_le _
theorem jT {n : Nat} {a : List Stt} (ha : AB n a) (hn : n ≤ 20000) : Tot ((fI a).bind fun b => gT b) fun r => Gd n r ∧ r.length ≤ a.length := by
 refine an (yF ha (by omega)) fun r ⟨h1, h2⟩ => (copied_tot h1.toAB (by omega)).mono fun q hq => ?_
 rw [hq]
 exact ⟨h1, h2⟩
theorem vw {n : Nat} {a b : List Stt} (ha : AB n a) (hb : AB n b) (hn : n ≤ 20000) : Tot (orL a b) fun r => Canon (gK a b) r ∧ (b = [] → r.length ≤ a.length) := by
 have hle1 : a.length ≤ gK a b := by
  unfold gK
  have := Nat.le_mul_of_pos_right (a.length + 2) (show 0 < b.length + 2 by omega)
  omega
 have hle2 : b.length ≤ gK a b := by
  unfold gK
  have := Nat.le_mul_of_pos_left (b.length + 2) (show 0 < a.length + 2 by omega)
  omega
 unfold orL
 refine aq (fun _ => (jT hb hn).mono fun r ⟨h1, h2⟩ => ⟨⟨⟨by omega, h1.row, h1.eb⟩, h1.live⟩, fun e => by subst e; have : r.length ≤ 0 := h2; omega⟩) fun _ => aq (fun _ => (jT ha hn).mono fun r ⟨h1, h2⟩ => ⟨⟨⟨by omega, h1.row, h1.eb⟩, h1.live⟩, fun _ => h2⟩) fun h0 => ?_
 exact (jG ha hb hn pG).mono fun r h => ⟨h, fun e => by subst e; exact absurd rfl h0⟩
theorem andL_tot {n : Nat} {a b : List Stt} (ha : AB n a) (hb : AB n b) (hn : n ≤ 20000) : Tot (andL a b) (Canon (gK a b)) := by
 unfold andL
 exact aq (fun _ => ah (Canon.nil _)) fun _ => aq (fun _ => ah (Canon.nil _)) fun _ => jG ha hb hn and1_tot
theorem lQ {n : Nat} {a b : List Stt} (ha : AB n a) (hb : AB n b) (hn : n ≤ 20000) : Tot (jI a b) (Canon (gK a b)) := by
 have hle1 : a.length ≤ gK a b := by
  unfold gK
  have := Nat.le_mul_of_pos_right (a.length + 2) (show 0 < b.length + 2 by omega)
  omega
 unfold jI
 exact aq (fun _ => ah (Canon.nil _)) fun _ => aq (fun _ => (jT ha hn).mono fun r ⟨h1, h2⟩ => ⟨⟨by omega, h1.row, h1.eb⟩, h1.live⟩) fun _ => jG ha hb hn iP
def xA (a : List Stt) (less : List Bool) : List Bool := a.map fun x => x.aL.any fun e => less.getD e.to.toNat false
def lj (a : List Stt) : Nat → List Bool
 | 0 => a.map (·.acc)
 | k + 1 => xA a (lj a k)
theorem mw (a : List Stt) : ∀ k, (lj a k).length = a.length
 | 0 => by simp [lj]
 | k + 1 => by simp [lj, xA]
theorem mv {a : List Stt} (hw : WF a) : ∀ (k s : Nat), s < a.length → ((lj a k)[s]? = some true ↔ Lv a k s)
 | 0, s, hs => by
  unfold lj Lv
  rw [List.getElem?_map, List.getElem?_eq_getElem hs]
  constructor
  ·intro h
   simp only [Option.map_some, Option.some.injEq] at h
   exact ⟨_, rfl, h⟩
  ·rintro ⟨x, h1, h2⟩
   cases h1
   simp [h2]
 | k + 1, s, hs => by
  have hm := List.getElem_mem hs
  unfold lj xA Lv
  rw [List.getElem?_map, List.getElem?_eq_getElem hs]
  simp only [Option.map_some, Option.some.injEq, List.any_eq_true]
  have key : ∀ e ∈ a[s].aL, ((lj a k).getD e.to.toNat false = true ↔ Lv a k e.to.toNat) := fun e he => by
   have h1 := (hw _ hm).one e he
   have h2 : e.to.toNat < a.length := by omega
   rw [← mv hw k _ h2, List.getD_eq_getElem?_getD, List.getElem?_eq_getElem (by rw [mw]; exact h2)]
   simp
  constructor
  ·rintro ⟨e, h1, h2⟩
   exact ⟨_, rfl, e, h1, ((hw _ hm).one e h1).2.1, (key e h1).1 h2⟩
  ·rintro ⟨x, h1, e, h2, h3, h4⟩
   cases h1
   exact ⟨e, h2, (key e h2).2 h4⟩
theorem wv {less : List Bool} {n s : Nat} (hn : less.length = n) : ∀ {es : List Sv.Edge} {o : List Bool} {x : Bool}, (∀ e ∈ es, 0 ≤ e.to ∧ e.to < n) → o[s]? = some x → Tot (caE less s es o) fun r => r = o.set s (x || es.any fun e => less.getD e.to.toNat false)
 | [], o, x, _, h => ah (by
  obtain ⟨h1, h2⟩ := List.getElem?_eq_some_iff.1 h
  rw [List.any_nil, Bool.or_false, ← h2, List.set_getElem_self])
 | e :: r, o, x, he, h => by
  have hs := (List.getElem?_eq_some_iff.1 h).1
  obtain ⟨h1, h2⟩ := he e (List.mem_cons_self ..)
  have hr := fun e' h' => he e' (List.mem_cons_of_mem _ h')
  have hself : ∀ v : Bool, (o.set s v)[s]? = some v := fun v => by rw [List.getElem?_set]; simp [hs]
  unfold caE
  refine aP (by omega) (by omega) fun x' hx _ => ?_
  rw [show ((s : Int)).toNat = s by omega, h] at hx
  cases hx
  refine aq (fun hx1 => ?_) fun hx1 => ?_
  ·refine dT (by omega) (by omega) ((wv hn (es := r) (x := true) hr (hself true)).mono fun q hq => ?_)
   rw [hq, List.set_set, hx1]
   simp
  ·refine aP h1 (by omega) fun y hy _ => dT (by omega) (by omega) ?_
   rw [show ((s : Int)).toNat = s by omega]
   refine (wv hn (es := r) (x := y) hr (hself y)).mono fun q hq => ?_
   rw [hq, List.set_set, List.any_cons, cx hy]
   have : x = false := by simpa using hx1
   rw [this, Bool.false_or]
theorem caS_tot {a : List Stt} {less : List Bool} (hw : WF a) (hr : ∀ s ∈ a, s.aL.length ≤ 256) (hl : less.length = a.length) : ∀ {r : List Stt} {i : Nat} {o : List Bool}, a.drop i = r → o.length = a.length → (∀ j, i ≤ j → j < a.length → o[j]? = some false) → Tot (caS a less r i o) fun q => q = o.take i ++ xA r less
 | [], i, o, h, ho, _ => ah (by
  have : a.length ≤ i := by rw [List.drop_eq_nil_iff] at h; exact h
  rw [List.take_of_length_le (by omega)]
  simp [xA])
 | x :: r, i, o, h, ho, h0 => by
  have hi : i < a.length := by
   rcases Nat.lt_or_ge i a.length with g | g
   ·exact g
   ·rw [List.drop_eq_nil_of_le g] at h; cases h
  have hx : a[i]? = some x := by
   rw [List.drop_eq_getElem_cons hi] at h
   injection h with h1 _
   rw [← h1]; exact List.getElem?_eq_getElem hi
  have hd : a.drop (i + 1) = r := by rw [← List.drop_drop, h]; rfl
  have hm := List.mem_of_getElem? hx
  unfold caS
  refine aP (by omega) (by omega) fun x' hx' _ => ?_
  rw [show ((i : Int)).toNat = i by omega, hx] at hx'
  cases hx'
  refine ar (by have := hr x hm; omega) (an (wv hl (x := false) (fun e he => ((hw x hm).one e he).2) (h0 i (Nat.le_refl _) hi)) fun q hq => ?_)
  subst hq
  rw [Bool.false_or]
  have e1 : ((i : Int) + 1) = ((i + 1 : Nat) : Int) := by omega
  rw [e1]
  refine (caS_tot hw hr hl hd (by rw [List.length_set]; exact ho) fun j h1 h2 => ?_).mono fun q hq => ?_
  ·rw [List.getElem?_set]
   simp [show i ≠ j by omega, h0 j (by omega) h2]
  ·rw [hq, List.take_add_one, List.getElem?_set]
   simp [show i < o.length by omega, xA, List.take_set_of_le]
theorem canW_tot {a : List Stt} {n : Nat} (h : Gd n a) (hn : n < 1000000000) {less : List Bool} (hl : less.length = a.length) : Tot (canW a less) fun r => r = xA a less := by
 have := h.len
 unfold canW
 refine ar (by omega) (ar (by omega) ((caS_tot h.wf h.row hl (r := a) (i := 0) (o := List.replicate a.length false) rfl (by simp) fun j _ h2 => by rw [List.getElem?_replicate, if_pos h2]).mono fun q hq => ?_))
 rw [hq]
 simp
abbrev tbK (a : List Stt) (k : Nat) : List (List Bool) := (List.range k).map (lj a)
theorem u7 {a : List Stt} {k j : Nat} (h : j < k) : (tbK a k)[j]? = some (lj a j) := by
 rw [List.getElem?_map, List.getElem?_range h]; rfl
def OneW (m : Nat) (p : Wst × Bool) : Prop := p.2 = false ∧ ∃ w, p.1 = [w] ∧ w.length = m
theorem wvE_tot {a : List Stt} {n : Nat} (h : Gd n a) (hn : n < 1000000000) {tb : List (List Bool)} {k : Nat} (htb : tb[k]? = some (lj a k)) (hk : k < 1000000000) {rec : RecW} {pre : List UInt8} (hp : pre.length < 1000000000) (hrec : ∀ (t : Int) (b : UInt8), 0 ≤ t → t < a.length → Lv a k t.toNat → Tot (rec t (pre ++ [b]) []) (OneW (pre.length + k + 1))) :
  ∀ {es : List Sv.Edge}, (∀ e ∈ es, EB e) → (∀ e ∈ es, e.lo ≤ e.hi ∧ 0 ≤ e.to ∧ e.to < a.length) → (∃ e ∈ es, Lv a k e.to.toNat) → Tot (wvE rec tb ((k + 1 : Nat) : Int) pre es []) (OneW (pre.length + k + 1))
 | [], _, _, ⟨e, he, _⟩ => by cases he
 | e :: r, hb, hw, hex => by
  obtain ⟨b1, b2, b3, b4⟩ := hb e (List.mem_cons_self ..)
  obtain ⟨w1, w2, w3⟩ := hw e (List.mem_cons_self ..)
  have htl := (List.getElem?_eq_some_iff.1 htb).1
  have hrow : (lj a k).length = a.length := mw a k
  unfold wvE wvB
  refine ar ⟨b1, b2⟩ ?_
  rw [Option.bind_assoc]
  refine ar ⟨b3, b4⟩ ?_
  rw [if_pos w1, Option.bind_assoc]
  refine ar ⟨by omega, by omega⟩ ?_
  rw [Option.bind_assoc]
  refine aP (by omega) (by omega) fun row hr _ => ?_
  rw [show (((k + 1 : Nat) : Int) - 1).toNat = k by omega, htb] at hr
  cases hr
  rw [Option.bind_assoc]
  refine aP w2 (by omega) fun ok hok _ => ?_
  cases ok with
  | true =>
   have hlv : Lv a k e.to.toNat := (mv h.wf k _ (by omega)).1 hok
   rw [if_pos rfl, Option.bind_assoc]
   refine ar ⟨b1, b2⟩ ?_
   rw [Option.bind_assoc]
   refine aZ hp ?_
   rw [Option.bind_assoc]
   refine an (hrec e.to _ w2 w3 hlv) fun p hp2 => ?_
   rw [if_neg (by rw [hp2.1]; decide)]
   exact ah ⟨rfl, hp2.2⟩
  | false =>
   rw [if_neg (by decide)]
   refine wvE_tot h hn htb hk hp hrec (es := r) (fun e' h' => hb e' (List.mem_cons_of_mem _ h')) (fun e' h' => hw e' (List.mem_cons_of_mem _ h')) ?_
   obtain ⟨e', h1, h2⟩ := hex
   rcases List.mem_cons.1 h1 with rfl | h1
   ·rw [(mv h.wf k _ (by omega)).2 h2] at hok
    cases hok
   ·exact ⟨e', h1, h2⟩
theorem wvV_tot {a : List Stt} {n : Nat} (h : Gd n a) (hn : n < 1000000000) {tb : List (List Bool)} : ∀ {k : Nat} {s : Int} {pre : List UInt8}, (∀ j, j < k → tb[j]? = some (lj a j)) → k < 1000000000 → pre.length + k < 1000000000 → 0 ≤ s → s < a.length → Lv a k s.toNat → Tot (wvV a tb 1 k s pre []) (OneW (pre.length + k))
 | 0, s, pre, _, _, hp, _, _, _ => by
  unfold wvV wvY
  refine aZ (by simp) (ar (by simp) ?_)
  rw [if_pos (by simp)]
  exact ah ⟨rfl, pre, rfl, rfl⟩
 | k + 1, s, pre, htb, hk, hp, hs0, hs1, hlv => by
  unfold wvV
  obtain ⟨x, hx, e, he, _, hl⟩ := hlv
  refine aP hs0 hs1 fun x' hx' hm => ?_
  rw [hx] at hx'
  cases hx'
  refine ar (by have := h.row x hm; omega) ?_
  refine (wvE_tot h hn (htb k (by omega)) (by omega) (by omega) (fun t b h1 h2 h3 => ?_) (h.eb x hm) (h.wf x hm).one ⟨e, he, hl⟩).mono fun p hp => by rwa [Nat.add_assoc] at hp
  have := wvV_tot h hn (tb := tb) (k := k) (s := t) (pre := pre ++ [b]) (fun j hj => htb j (by omega)) (by omega) (by simp; omega) h1 h2 h3
  rw [List.length_append, List.length_singleton] at this
  rwa [show pre.length + 1 + k = pre.length + k + 1 by omega] at this
def MinD (a : List Stt) (k s : Nat) : Prop := Lv a k s ∧ ∀ j, j < k → ¬ Lv a j s
theorem minD_ex {a : List Stt} {s : Nat} : ∀ {k : Nat}, Lv a k s → ∃ m, MinD a m s := fun {k} => by
 induction k using Nat.strongRecOn with
 | ind k ih =>
  intro h
  by_cases g : ∃ j, j < k ∧ Lv a j s
  ·obtain ⟨j, h1, h2⟩ := g
   exact ih j h1 h2
  ·exact ⟨k, h, fun j h1 h2 => g ⟨j, h1, h2⟩⟩
theorem Lv.lt {a : List Stt} {k s : Nat} (h : Lv a k s) : s < a.length := by
 cases k with
 | zero => obtain ⟨x, h1, _⟩ := h; exact (List.getElem?_eq_some_iff.1 h1).1
 | succ k => obtain ⟨x, h1, _⟩ := h; exact (List.getElem?_eq_some_iff.1 h1).1
theorem q7 {a : List Stt} : ∀ {k s : Nat}, MinD a k s → ∀ d, d ≤ k → ∃ t, MinD a d t
 | 0, s, h, d, hd => ⟨s, by rw [Nat.le_zero.1 hd]; exact h⟩
 | k + 1, s, h, d, hd => by
  by_cases e : d = k + 1
  ·exact ⟨s, by rw [e]; exact h⟩
  ·obtain ⟨⟨x, h1, y, h2, h3, h4⟩, h5⟩ := h
   exact q7 (k := k) (s := y.to.toNat) ⟨h4, fun j hj hl => h5 (j + 1) (by omega) ⟨x, h1, y, h2, h3, hl⟩⟩ d (by omega)
theorem minD_lt {a : List Stt} {k s : Nat} (h : MinD a k s) : k < a.length := by
 have hr : ∃ f : Nat → Nat, ∀ d, d < k + 1 → MinD a d (f d) := ⟨fun d => if g : d < k + 1 then (q7 h d (by omega)).choose else 0, fun d g => by
  simp only [g, dif_pos]
  exact (q7 h d (by omega)).choose_spec⟩
 obtain ⟨f, hf⟩ := hr
 exact pigeon (m := k + 1) f (fun i hi => (hf i hi).1.lt) fun i j hi hj e => by
  rcases Nat.lt_trichotomy i j with g | g | g
  ·exact absurd (e ▸ (hf i hi).1) ((hf j hj).2 i g)
  ·exact g
  ·exact absurd (e ▸ (hf j hj).1) ((hf i hi).2 j g)
theorem yA {v : Bool} : ∀ {l : List Bool} {i : Int}, Tot (idxB v l i) fun _ => True
 | [], i => ah trivial
 | x :: r, i => by
  unfold idxB
  exact aq (fun _ => ah trivial) fun _ => yA
theorem conB_tot {l : List Bool} {v : Bool} (h : l.length ≤ 1000000000) : Tot (conB l v) fun _ => True := by
 unfold conB
 exact ar h (an yA fun _ _ => ah trivial)
def NoW (m : Nat) (p : Wst × Bool) : Prop := p.1 = [] ∨ ∃ w, p.1 = [w] ∧ w.length ≤ m
theorem wdX_tot {a : List Stt} {n : Nat} (h : Gd n a) (hn : n < 400000000) {k m : Nat} (hkm : k ≤ m) (hm : m < a.length) {rec : Nat → List (List Bool) → Wst → Option (Wst × Bool)} (hlv : Lv a m 0) (hnot : ∀ j, j < m → ¬ Lv a j 0) (hrec : k < m → Tot (rec (k + 1) (tbK a (k + 1)) []) (NoW m)) : Tot (wdX rec a 1 k (tbK a (k + 1)) []) (NoW m) := by
 have hlen := h.len
 have hrl := mw a k
 have htl : (tbK a (k + 1)).length = k + 1 := by simp
 unfold wdX
 refine aP (by omega) (by omega) fun r hr _ => ?_
 rw [show ((k : Int)).toNat = k by omega, u7 (k := k + 1) (j := k) (by omega)] at hr
 cases hr
 refine an (conB_tot (by omega)) fun c _ => aq (fun _ => ?_) fun _ => ah (.inl rfl)
 refine ar (by omega) (ar ⟨by omega, by omega⟩ (ar (by omega) ?_))
 have hlast : ((tbK a (k + 1)).take (k + 1)).drop k = [lj a k] := by
  rw [List.take_of_length_le (by omega), List.drop_eq_getElem_cons (by omega), List.drop_eq_nil_of_le (by omega)]
  have := u7 (a := a) (k := k + 1) (j := k) (by omega)
  rw [List.getElem?_eq_getElem (by omega)] at this
  injection this with this
  rw [this]
 rw [hlast]
 unfold someM
 rw [Option.bind_assoc]
 refine aP (Int.le_refl _) (by simp) fun r hr _ => ?_
 cases hr
 rw [Option.bind_assoc]
 refine aP (Int.le_refl _) (by omega) fun b hb _ => ?_
 cases b with
 | true =>
  have hlv := (mv h.wf k 0 (by omega)).1 hb
  have hkm' : k = m := by
   rcases Nat.lt_or_ge k m with g | g
   ·exact absurd hlv (hnot k g)
   ·omega
  rw [if_pos rfl]
  refine an (wvV_tot h (by omega) (k := k) (s := 0) (pre := []) (fun j hj => u7 (by omega)) (by omega) (by simp; omega) (Int.le_refl _) (by omega) hlv) fun p hp => ?_
  rw [if_neg (by rw [hp.1]; decide)]
  obtain ⟨_, w, h1, h2⟩ := hp
  exact ah (.inr ⟨w, h1, by rw [h2]; simp; omega⟩)
 | false =>
  rw [if_neg (by decide), Option.bind_some, if_pos rfl]
  rcases Nat.lt_or_ge k m with g | g
  ·exact hrec g
  ·have hkm' : k = m := by omega
   subst hkm'
   have := (mv h.wf k 0 (by omega)).2 hlv
   rw [show (0 : Int).toNat = 0 from rfl, this] at hb
   cases hb
theorem wdL_tot {a : List Stt} {n : Nat} (h : Gd n a) (hn : n < 400000000) {m : Nat} (hm : m < a.length) (hlv : Lv a m 0) (hnot : ∀ j, j < m → ¬ Lv a j 0) : ∀ {f k : Nat}, k ≤ m → m + 1 ≤ f + k → Tot (wdL a 1 f k (tbK a (max k 1)) []) (NoW m)
 | 0, k, h1, h2 => by omega
 | f + 1, k, h1, h2 => by
  have hlen := h.len
  unfold wdL
  refine ar (by omega) ?_
  rw [if_pos (by omega)]
  have hrec : k < m → Tot (wdL a 1 f (k + 1) (tbK a (k + 1)) []) (NoW m) := fun g => by
   have := wdL_tot h hn hm hlv hnot (f := f) (k := k + 1) (by omega) (by omega)
   rwa [show max (k + 1) 1 = k + 1 by omega] at this
  refine aq (fun hk => ?_) fun hk => ?_
  ·have hmax : max k 1 = k := by omega
   rw [hmax]
   have htl : (tbK a k).length = k := by simp
   refine ar ⟨by omega, by omega⟩ (aP (by omega) (by omega) fun r hr _ => ?_)
   rw [show ((k : Int) - 1).toNat = k - 1 by omega, u7 (show k - 1 < k by omega)] at hr
   cases hr
   refine an (canW_tot h (by omega) (mw a _)) fun r' hr' => aZ (by omega) ?_
   have e : tbK a k ++ [r'] = tbK a (k + 1) := by
    unfold tbK
    rw [List.range_succ, List.map_append, hr']
    have : xA a (lj a (k - 1)) = lj a k := by
     conv => rhs; rw [show k = (k - 1) + 1 by omega]
     rfl
    rw [this]
    rfl
   rw [e]
   exact wdX_tot h hn h1 hm hlv hnot hrec
  ·have hk0 : k = 0 := by omega
   subst hk0
   exact wdX_tot h hn h1 hm hlv hnot hrec
theorem wdF_tot {a : List Stt} (hn : a.length < 1000000000) : ∀ {r : List Stt} {i : Nat} {l : List Bool}, a.drop i = r → l.length = i → Tot (wdF a r i l) fun q => q = l ++ r.map (·.acc)
 | [], i, l, _, _ => ah (by simp)
 | x :: r, i, l, h, hl => by
  have hi : i < a.length := by
   rcases Nat.lt_or_ge i a.length with g | g
   ·exact g
   ·rw [List.drop_eq_nil_of_le g] at h; cases h
  have hx : a[i]? = some x := by
   rw [List.drop_eq_getElem_cons hi] at h
   injection h with h1 _
   rw [← h1]; exact List.getElem?_eq_getElem hi
  have hd : a.drop (i + 1) = r := by rw [← List.drop_drop, h]; rfl
  unfold wdF
  refine aP (by omega) (by omega) fun x' hx' _ => ?_
  rw [show ((i : Int)).toNat = i by omega, hx] at hx'
  cases hx'
  have e1 : ((i : Int) + 1) = ((i + 1 : Nat) : Int) := by omega
  rw [e1]
  refine aZ (by omega) ((wdF_tot hn hd (by simp [hl])).mono fun q hq => ?_)
  rw [hq]
  simp
theorem zS {a : List Stt} {n : Nat} (h : AB n a) (hn : n < 400000000) : Tot (p6 a 1) fun l => l = [] ∨ ∃ w, l = [w] ∧ w.length ≤ n := by
 unfold p6 uW
 rw [if_neg (by decide)]
 refine an (yF h (by omega)) fun a' ⟨ha, hle⟩ => ?_
 rw [Option.bind_some]
 have hl := h.len
 unfold wdM
 rw [Option.bind_assoc]
 refine ar (by omega) ?_
 rw [Option.bind_assoc]
 refine an (wdF_tot (by omega) (r := a') (i := 0) (l := []) rfl rfl) fun r hr => ?_
 subst hr
 rcases Nat.eq_zero_or_pos a'.length with h0 | h0
 ·unfold wFuel wdL
  rw [Option.bind_assoc]
  refine ar (by omega) ?_
  rw [if_neg (by omega)]
  exact ah (.inl rfl)
 ·obtain ⟨k, hk⟩ := ha.live 0 h0
  obtain ⟨m, hm⟩ := minD_ex hk
  have hml := minD_lt hm
  refine an (wdL_tot ha hn hml hm.1 hm.2 (f := wFuel a' 1) (k := 0) (Nat.zero_le _) (by
   unfold wFuel
   rw [if_neg (by decide)]
   have : (1 : Int).toNat = 1 := rfl
   rw [this]
   omega)) fun p hp => ah ?_
  rcases hp with hp | ⟨w, hp, hw⟩
  ·exact .inl hp
  ·exact .inr ⟨w, hp, by omega⟩
theorem lU {a : List Stt} {n : Nat} (h : AB n a) (hn : n < 400000000) : Tot (lV a) fun r => r.1.length ≤ n := by
 unfold lV
 refine an (zS h hn) fun l hl => ?_
 rcases hl with rfl | ⟨w, rfl, hw⟩
 ·exact ar (by simp) (by rw [if_pos (by simp)]; exact ah (Nat.zero_le _))
 ·refine ar (by simp) ?_
  rw [if_neg (by simp)]
  exact aP (Int.le_refl _) (by simp) fun x hx _ => by
   cases hx
   exact ah hw
end Go.Proofs.YtmjddpeookapaaaGreatDoor
