import Derived.Test.YtaianhhmmacblaaSets
/-
  The nearest member, the number of members, the order of sets: what they mean.
-/
namespace Go.Proofs.Ytaianhhmmacblaa

/-- how far a number is: 0, 1, -1, 2, -2, .. -/
def key (u : Int) : Int := if 0 < u then 2 * u - 1 else -2 * u
theorem key_cases (u : Int) : (0 < u ∧ key u = 2 * u - 1) ∨ (u ≤ 0 ∧ key u = -2 * u) := by
  unfold key
  by_cases h : 0 < u
  · exact Or.inl ⟨h, if_pos h⟩
  · exact Or.inr ⟨by omega, if_neg h⟩
theorem nearer_key (u v : Int) : nearerB u v = true ↔ key u < key v := by
  rw [nearer_iff]
  have a := key_cases u
  have b := key_cases v
  have c := absI_cases u
  have d := absI_cases v
  omega
theorem key_inj {u v : Int} (h : key u = key v) : u = v := by
  have a := key_cases u
  have b := key_cases v
  omega
theorem tk_fold : ∀ (l : List Int) (s : Int),
    (l.foldl tk (s, true)).2 = true ∧ ((l.foldl tk (s, true)).1 = s ∨ (l.foldl tk (s, true)).1 ∈ l) ∧ key (l.foldl tk (s, true)).1 ≤ key s ∧ ∀ u ∈ l, key (l.foldl tk (s, true)).1 ≤ key u
  | [], s => ⟨rfl, Or.inl rfl, Int.le_refl _, fun _ h => (by cases h)⟩
  | x :: l, s => by
    rw [List.foldl_cons]
    by_cases hn : nearerB x s = true
    · have ht : tk (s, true) x = (x, true) := by unfold tk; simp [hn]
      rw [ht]
      have hk := (nearer_key x s).1 hn
      obtain ⟨h1, h2, h3, h4⟩ := tk_fold l x
      refine ⟨h1, Or.inr ?_, by omega, fun u hu => ?_⟩
      · rcases h2 with h2 | h2
        · rw [h2]; exact List.mem_cons_self
        · exact List.mem_cons_of_mem _ h2
      · rcases List.mem_cons.1 hu with rfl | hu
        · exact h3
        · exact h4 u hu
    · have ht : tk (s, true) x = (s, true) := by unfold tk; simp [hn]
      rw [ht]
      have hk : ¬ key x < key s := fun h => hn ((nearer_key x s).2 h)
      obtain ⟨h1, h2, h3, h4⟩ := tk_fold l s
      refine ⟨h1, ?_, h3, fun u hu => ?_⟩
      · rcases h2 with h2 | h2
        · exact Or.inl h2
        · exact Or.inr (List.mem_cons_of_mem _ h2)
      · rcases List.mem_cons.1 hu with rfl | hu
        · omega
        · exact h4 u hu
/-- r tells the nearest member of d -/
def IsLeast (d : Nm) (r : Int × Bool) : Prop := (r = (0, false) ∧ ∀ v, ¬ inN d v) ∨ (r.2 = true ∧ inN d r.1 ∧ ∀ v, inN d v → key r.1 ≤ key v)
theorem IsLeast.unique {d : Nm} {r r' : Int × Bool} (h : IsLeast d r) (h' : IsLeast d r') : r = r' := by
  rcases h with ⟨h1, h2⟩ | ⟨h1, h2, h3⟩
  · rcases h' with ⟨k1, k2⟩ | ⟨k1, k2, k3⟩
    · rw [h1, k1]
    · exact absurd k2 (h2 _)
  · rcases h' with ⟨k1, k2⟩ | ⟨k1, k2, k3⟩
    · exact absurd h2 (k2 _)
    · have e := key_inj (Int.le_antisymm (h3 _ k2) (k3 _ h2))
      exact Prod.ext e (by rw [h1, k1])
theorem IsLeast.congr {a b : Nm} {r : Int × Bool} (h : ∀ u, inN a u ↔ inN b u) (k : IsLeast a r) : IsLeast b r := by
  rcases k with ⟨h1, h2⟩ | ⟨h1, h2, h3⟩
  · exact Or.inl ⟨h1, fun v hv => h2 v ((h v).2 hv)⟩
  · exact Or.inr ⟨h1, (h _).1 h2, fun v hv => h3 v ((h v).2 hv)⟩
theorem least_cands (d : Nm) (l : List Int) (h1 : ∀ u ∈ l, inN d u) (h2 : ∀ v, inN d v → ∃ u ∈ l, key u ≤ key v) : IsLeast d (l.foldl tk (0, false)) := by
  match l, h1, h2 with
  | [], h1, h2 => exact Or.inl ⟨rfl, fun v hv => by obtain ⟨u, hu, _⟩ := h2 v hv; exact (by cases hu)⟩
  | x :: l, h1, h2 =>
    rw [List.foldl_cons, show tk (0, false) x = (x, true) by unfold tk; rfl]
    obtain ⟨k1, k2, k3, k4⟩ := tk_fold l x
    refine Or.inr ⟨k1, ?_, fun v hv => ?_⟩
    · rcases k2 with k2 | k2
      · rw [k2]; exact h1 _ List.mem_cons_self
      · exact h1 _ (List.mem_cons_of_mem _ k2)
    · obtain ⟨u, hu, hk⟩ := h2 v hv
      rcases List.mem_cons.1 hu with rfl | hu
      · omega
      · have := k4 u hu; omega

theorem can_int {d : Nm} (h : CanN d) {s : Int × Int} (hs : s ∈ d.ints) {n : Int} (h1 : s.1 ≤ n) (h2 : n ≤ s.2) : inN d (n * 10000) := by
  have := h.ri s hs
  exact (inN_whole d n).2 ⟨by omega, s, hs, h1, h2⟩
theorem can_fr {d : Nm} (h : CanN d) {s : Int × Int} (hs : s ∈ d.fracs) : s.1 ≤ s.2 ∧ ¬ s.1 % 10000 = 0 ∧ ¬ s.2 % 10000 = 0 ∧ vld s.1 ∧ vld s.2 := by
  obtain ⟨c, h1, h2, h3⟩ := h.cf
  rw [h3] at hs
  obtain ⟨x, hx, rfl⟩ := List.mem_map.1 hs
  have a := h2 x hx
  have b := h1.1 x hx
  refine ⟨(unrank_le _ _).2 b, unrank_nw _, unrank_nw _, ?_, ?_⟩
  · unfold unrankS unrankI vld; simp only; omega
  · unfold unrankS unrankI vld; simp only; omega
theorem can_frac {d : Nm} (h : CanN d) {s : Int × Int} (hs : s ∈ d.fracs) {u : Int} (h0 : ¬ u % 10000 = 0) (h1 : s.1 ≤ u) (h2 : u ≤ s.2) : inN d u := by
  have := can_fr h hs
  unfold vld at this
  unfold inN
  rw [if_neg h0]
  exact ⟨by omega, s, hs, h1, h2⟩
theorem can_mem {d : Nm} (_h : CanN d) {v : Int} (hv : inN d v) : (∃ s ∈ d.ints, ∃ n, v = n * 10000 ∧ s.1 ≤ n ∧ n ≤ s.2) ∨ (¬ v % 10000 = 0 ∧ ∃ s ∈ d.fracs, s.1 ≤ v ∧ v ≤ s.2) := by
  unfold inN at hv
  by_cases h0 : v % 10000 = 0
  · rw [if_pos h0] at hv
    obtain ⟨_, s, hs, h1, h2⟩ := hv
    exact Or.inl ⟨s, hs, v / 10000, by omega, h1, h2⟩
  · rw [if_neg h0] at hv
    obtain ⟨_, s, hs, h1, h2⟩ := hv
    exact Or.inr ⟨h0, s, hs, h1, h2⟩

theorem nearI_cases (s : Int × Int) (m : Int) : (s.1 > 0 ∧ nearI s m = s.1) ∨ (s.1 ≤ 0 ∧ s.2 < 0 ∧ nearI s m = s.2) ∨ (s.1 ≤ 0 ∧ 0 ≤ s.2 ∧ nearI s m = m) := by
  unfold nearI
  by_cases h1 : s.1 > 0
  · exact Or.inl ⟨h1, if_pos h1⟩
  · rw [if_neg h1]
    by_cases h2 : s.2 < 0
    · exact Or.inr (Or.inl ⟨by omega, h2, if_pos h2⟩)
    · exact Or.inr (Or.inr ⟨by omega, by omega, if_neg h2⟩)
def candP (d : Nm) : List Int := d.ints.map (fun s => nearI s 0 * 10000) ++ d.fracs.map (fun s => nearI s 1)
theorem leastP_cand (d : Nm) : leastP d = (candP (makeR d)).foldl tk (0, false) := by
  unfold leastP candP
  rw [List.foldl_append, List.foldl_map, List.foldl_map]
theorem candP_least {d : Nm} (h : CanN d) : IsLeast d ((candP d).foldl tk (0, false)) := by
  refine least_cands d _ (fun u hu => ?_) (fun v hv => ?_)
  · unfold candP at hu
    rcases List.mem_append.1 hu with hu | hu
    · obtain ⟨s, hs, rfl⟩ := List.mem_map.1 hu
      have := h.ci.1 s hs
      have := nearI_cases s 0
      exact can_int h hs (by omega) (by omega)
    · obtain ⟨s, hs, rfl⟩ := List.mem_map.1 hu
      have := can_fr h hs
      have := nearI_cases s 1
      exact can_frac h hs (by omega) (by omega) (by omega)
  · unfold candP
    rcases can_mem h hv with ⟨s, hs, n, rfl, h1, h2⟩ | ⟨h0, s, hs, h1, h2⟩
    · refine ⟨nearI s 0 * 10000, List.mem_append_left _ (List.mem_map.2 ⟨s, hs, rfl⟩), ?_⟩
      have a := nearI_cases s 0
      have b := key_cases (nearI s 0 * 10000)
      have c := key_cases (n * 10000)
      omega
    · refine ⟨nearI s 1, List.mem_append_right _ (List.mem_map.2 ⟨s, hs, rfl⟩), ?_⟩
      have a := nearI_cases s 1
      have b := key_cases (nearI s 1)
      have c := key_cases v
      omega
theorem leastP_spec (d : Nm) : IsLeast d (leastP d) := by
  rw [leastP_cand]
  exact (candP_least (makeR_can d)).congr (makeR_in d)

/-- the reference's candidates -/
def candI (acc : List Int) (s : Int × Int) : List Int := acc ++ [s.1 * 10000, s.2 * 10000]
def candF (acc : List Int) (s : Int × Int) : List Int := if decide (s.1 < 0) && decide (s.2 > 0) then acc ++ [s.1, s.2] ++ [1] else acc ++ [s.1, s.2]
def zeroB (s : Int × Int) : Bool := decide (s.1 ≤ 0) && decide (s.2 ≥ 0)
def leastC (d : Nm) : Int × Bool :=
  if d.ints.any zeroB then (0, true) else (d.fracs.foldl candF (d.ints.foldl candI [])).foldl tk (0, false)
def leastR (d : Nm) : Int × Bool := leastC (makeR d)
theorem ex_cons {α : Type} {x : α} {l : List α} {p : α → Prop} : (∃ s, s ∈ x :: l ∧ p s) ↔ p x ∨ ∃ s, s ∈ l ∧ p s := by simp
theorem candI_mem (l : List (Int × Int)) (acc : List Int) (u : Int) : u ∈ l.foldl candI acc ↔ u ∈ acc ∨ ∃ s, s ∈ l ∧ (u = s.1 * 10000 ∨ u = s.2 * 10000) := by
  induction l generalizing acc with
  | nil => simp
  | cons x l ih =>
    rw [List.foldl_cons, ih, ex_cons, ← or_assoc]
    refine or_congr ?_ Iff.rfl
    unfold candI
    simp only [List.mem_append, List.mem_cons, List.not_mem_nil, or_false]
theorem candF_mem (l : List (Int × Int)) (acc : List Int) (u : Int) : u ∈ l.foldl candF acc ↔ u ∈ acc ∨ ∃ s, s ∈ l ∧ (u = s.1 ∨ u = s.2 ∨ (u = 1 ∧ s.1 < 0 ∧ s.2 > 0)) := by
  induction l generalizing acc with
  | nil => simp
  | cons x l ih =>
    rw [List.foldl_cons, ih, ex_cons, ← or_assoc]
    refine or_congr ?_ Iff.rfl
    unfold candF
    by_cases hc : x.1 < 0 ∧ x.2 > 0
    · rw [if_pos (by simp [hc])]
      simp only [List.mem_append, List.mem_cons, List.not_mem_nil, or_false, or_assoc, hc, and_true]
    · rw [if_neg (by simp; intro h1; have := fun h2 => hc ⟨h1, h2⟩; omega)]
      simp only [List.mem_append, List.mem_cons, List.not_mem_nil, or_false, hc, and_false]
theorem leastC_spec {d : Nm} (h : CanN d) : IsLeast d (leastC d) := by
  unfold leastC
  by_cases hz : d.ints.any zeroB = true
  · rw [if_pos hz]
    obtain ⟨s, hs, hk⟩ := List.any_eq_true.1 hz
    unfold zeroB at hk
    simp only [Bool.and_eq_true, decide_eq_true_eq] at hk
    refine Or.inr ⟨rfl, ?_, fun v _ => ?_⟩
    · have := can_int h hs (n := 0) hk.1 hk.2
      exact this
    · have := key_cases v
      have := key_cases 0
      simp only
      omega
  · rw [if_neg hz]
    have hn : ∀ s ∈ d.ints, ¬ (s.1 ≤ 0 ∧ s.2 ≥ 0) := fun s hs hc => hz (List.any_eq_true.2 ⟨s, hs, by unfold zeroB; simp [hc]⟩)
    refine least_cands d _ (fun u hu => ?_) (fun v hv => ?_)
    · rw [candF_mem, candI_mem] at hu
      rcases hu with (hu | ⟨s, hs, rfl | rfl⟩) | ⟨s, hs, hu⟩
      · exact (by cases hu)
      · exact can_int h hs (Int.le_refl _) (h.ci.1 s hs)
      · exact can_int h hs (h.ci.1 s hs) (Int.le_refl _)
      · have := can_fr h hs
        exact can_frac h hs (by omega) (by omega) (by omega)
    · rcases can_mem h hv with ⟨s, hs, n, rfl, h1, h2⟩ | ⟨h0, s, hs, h1, h2⟩
      · have hz' := hn s hs
        have c := key_cases (n * 10000)
        by_cases h3 : s.1 > 0
        · refine ⟨s.1 * 10000, ?_, ?_⟩
          · rw [candF_mem, candI_mem]; exact Or.inl (Or.inr ⟨s, hs, Or.inl rfl⟩)
          · have b := key_cases (s.1 * 10000)
            omega
        · refine ⟨s.2 * 10000, ?_, ?_⟩
          · rw [candF_mem, candI_mem]; exact Or.inl (Or.inr ⟨s, hs, Or.inr rfl⟩)
          · have b := key_cases (s.2 * 10000)
            omega
      · have c := key_cases v
        have e := can_fr h hs
        by_cases h3 : s.1 > 0
        · refine ⟨s.1, ?_, ?_⟩
          · rw [candF_mem]; exact Or.inr ⟨s, hs, Or.inl rfl⟩
          · have b := key_cases s.1
            omega
        · by_cases h4 : s.2 < 0
          · refine ⟨s.2, ?_, ?_⟩
            · rw [candF_mem]; exact Or.inr ⟨s, hs, Or.inr (Or.inl rfl)⟩
            · have b := key_cases s.2
              omega
          · refine ⟨1, ?_, ?_⟩
            · rw [candF_mem]; exact Or.inr ⟨s, hs, Or.inr (Or.inr ⟨rfl, by omega, by omega⟩)⟩
            · have b := key_cases 1
              omega
theorem leastR_spec (d : Nm) : IsLeast d (leastR d) := (leastC_spec (makeR_can d)).congr (makeR_in d)
theorem least_eq (d : Nm) : leastP d = leastR d := (leastP_spec d).unique (leastR_spec d)

/-- how many of the numbers lo, lo + 1, .. satisfy p -/
def card (p : Int → Bool) (lo : Int) : Nat → Int
  | 0 => 0
  | n + 1 => card p lo n + if p (lo + n) then 1 else 0
theorem card_or_and (p q : Int → Bool) (lo : Int) : ∀ n, card (fun u => p u || q u) lo n + card (fun u => p u && q u) lo n = card p lo n + card q lo n
  | 0 => rfl
  | n + 1 => by
    have := card_or_and p q lo n
    simp only [card]
    rcases Bool.eq_false_or_eq_true (p (lo + n)) with h1 | h1 <;> rcases Bool.eq_false_or_eq_true (q (lo + n)) with h2 | h2 <;> simp [h1, h2] <;> omega
theorem card_congr {p q : Int → Bool} {lo : Int} : ∀ {n : Nat}, (∀ u, lo ≤ u → u < lo + n → p u = q u) → card p lo n = card q lo n
  | 0, _ => rfl
  | n + 1, h => by
    simp only [card]
    rw [card_congr (n := n) fun u h1 h2 => h u h1 (by omega), h (lo + n) (by omega) (by omega)]
theorem card_nonneg (p : Int → Bool) (lo : Int) : ∀ n, 0 ≤ card p lo n
  | 0 => Int.le_refl _
  | n + 1 => by
    have := card_nonneg p lo n
    simp only [card]
    split <;> omega
theorem card_pos (p : Int → Bool) (lo : Int) : ∀ n, 0 < card p lo n ↔ ∃ u, lo ≤ u ∧ u < lo + n ∧ p u = true
  | 0 => by simp only [card]; exact ⟨fun h => absurd h (by omega), fun ⟨u, h1, h2, _⟩ => absurd h1 (by omega)⟩
  | n + 1 => by
    have ih := card_pos p lo n
    have h0 := card_nonneg p lo n
    simp only [card]
    cases hp : p (lo + n) with
    | true =>
      refine ⟨fun _ => ⟨lo + n, by omega, by omega, hp⟩, fun _ => ?_⟩
      simp; omega
    | false =>
      simp only [Bool.false_eq_true, if_false, Int.add_zero, ih]
      refine ⟨fun ⟨u, h1, h2, h3⟩ => ⟨u, h1, by omega, h3⟩, fun ⟨u, h1, h2, h3⟩ => ⟨u, h1, ?_, h3⟩⟩
      have : u ≠ lo + n := fun e => by rw [e, hp] at h3; exact (by cases h3)
      omega
def inB' (a b n : Int) : Bool := decide (a ≤ n) && decide (n ≤ b)
theorem card_span (a b lo : Int) : ∀ (n : Nat), card (inB' a b) lo n = max 0 (min b (lo + n - 1) - max a lo + 1)
  | 0 => by simp only [card]; omega
  | n + 1 => by
    have ih := card_span a b lo n
    simp only [card]
    rw [ih]
    unfold inB'
    by_cases h1 : a ≤ lo + n <;> by_cases h2 : lo + n ≤ b <;> simp [h1, h2] <;> omega
end Go.Proofs.Ytaianhhmmacblaa
/-
  The number of members; the order of sets: what they mean.
-/
namespace Go.Proofs.Ytaianhhmmacblaa

theorem card_false (lo : Int) : ∀ n, card (fun _ => false) lo n = 0
  | 0 => rfl
  | n + 1 => by simp [card, card_false lo n]
theorem card_le (p : Int → Bool) (lo : Int) : ∀ n : Nat, card p lo n ≤ n
  | 0 => Int.le_refl _
  | n + 1 => by
    have := card_le p lo n
    simp only [card]
    split <;> omega
theorem csum_add (f : Int × Int → Int) (l : List (Int × Int)) (n : Int) : csum f l n = n + csum f l 0 := by
  induction l generalizing n with
  | nil => simp [csum]
  | cons s l ih =>
    have h1 : csum f (s :: l) n = csum f l (n + f s) := rfl
    have h2 : csum f (s :: l) 0 = csum f l (0 + f s) := rfl
    rw [h1, h2, ih (n + f s), ih (0 + f s)]
    omega
theorem insideB_cons (s : Int × Int) (l : List (Int × Int)) (u : Int) : insideB (s :: l) u = (inB u s || insideB l u) := rfl
theorem csum_card (lo : Int) (n : Nat) : ∀ (l : List (Int × Int)), Can l → (∀ s ∈ l, lo ≤ s.1 ∧ s.2 < lo + n) → csum cI l 0 = card (insideB l) lo n
  | [], _, _ => (card_false lo n).symm
  | s :: l, h, hr => by
    have ih := csum_card lo n l h.tail fun x hx => hr x (List.mem_cons_of_mem _ hx)
    have h1 : csum cI (s :: l) 0 = csum cI l (0 + cI s) := rfl
    have h2 := card_or_and (fun u => inB u s) (insideB l) lo n
    have h3 : card (fun u => inB u s && insideB l u) lo n = 0 := by
      rw [← card_false lo n]
      refine card_congr fun u _ _ => ?_
      cases hi : insideB l u with
      | false => simp
      | true =>
        rw [insideB_iff] at hi
        have := (h.mem_tail u).1 hi
        unfold inB
        simp
        omega
    have h4 : card (fun u => inB u s) lo n = max 0 (min s.2 (lo + n - 1) - max s.1 lo + 1) := card_span s.1 s.2 lo n
    have h5 := h.head
    have h6 := hr s List.mem_cons_self
    have h7 : card (insideB (s :: l)) lo n = card (fun u => inB u s || insideB l u) lo n := rfl
    rw [h1, csum_add, ih, h7]
    unfold cI
    omega

def countR (d : Nm) : Int := csum cI (fracsR d.fracs) (csum cI (intsR d.ints) 0)
theorem cF_unrank (c : Int × Int) : cF (unrankS c) = cI c := by
  unfold cF cI unrankS unrankI floorI
  simp only
  omega
theorem csum_unrank (l : List (Int × Int)) (n : Int) : csum cF (l.map unrankS) n = csum cI l n := by
  induction l generalizing n with
  | nil => rfl
  | cons s l ih =>
    have h1 : csum cF ((s :: l).map unrankS) n = csum cF (l.map unrankS) (n + cF (unrankS s)) := rfl
    have h2 : csum cI (s :: l) n = csum cI l (n + cI s) := rfl
    rw [h1, h2, ih, cF_unrank]
theorem count_eq (d : Nm) : countP d = countR d := by
  unfold countP countR
  rw [show (makeR d).fracs = (fracsR d.fracs).map unrankS from rfl, csum_unrank]
  rfl
theorem count_card (n m : Nat) (hn : (n : Int) = 200000000001) (hm : (m : Int) = 1999800000000000) (d : Nm) :
    countR d = card (fun k => hasL d (k * 10000)) (-100000000000) n + card (fun k => hasL d (unrankI k)) (-999900000000000) m := by
  obtain ⟨i1, i2, i3⟩ := intsR_spec d.ints
  obtain ⟨f1, f2, f3⟩ := fracsR_spec d.fracs
  unfold countR
  rw [csum_add, csum_card (-100000000000) n _ i1 (fun s hs => by have := i2 s hs; omega), csum_card (-999900000000000) m _ f1 (fun s hs => by have := f2 s hs; omega)]
  congr 1
  · refine card_congr fun k h1 h2 => ?_
    rw [Bool.eq_iff_iff, insideB_iff, i3, hasL_iff, inN_whole]
  · refine card_congr fun k h1 h2 => ?_
    rw [Bool.eq_iff_iff, insideB_iff, hasL_iff]
    have h4 := f3 (unrankI k) (unrank_nw k)
    rw [rank_unrank] at h4
    rw [h4]
    unfold inN
    rw [if_neg (unrank_nw k)]
theorem count_union {a b c e : Nm} (hc : ∀ u, inN c u ↔ inN a u ∨ inN b u) (he : ∀ u, inN e u ↔ inN a u ∧ inN b u) : countR a + countR b = countR c + countR e := by
  obtain ⟨n, hn⟩ : ∃ n : Nat, (n : Int) = 200000000001 := ⟨200000000001, rfl⟩
  obtain ⟨m, hm⟩ : ∃ m : Nat, (m : Int) = 1999800000000000 := ⟨1999800000000000, rfl⟩
  have hc' : ∀ u, hasL c u = (hasL a u || hasL b u) := fun u => by rw [Bool.eq_iff_iff, Bool.or_eq_true, hasL_iff, hasL_iff, hasL_iff]; exact hc u
  have he' : ∀ u, hasL e u = (hasL a u && hasL b u) := fun u => by rw [Bool.eq_iff_iff, Bool.and_eq_true, hasL_iff, hasL_iff, hasL_iff]; exact he u
  rw [count_card n m hn hm a, count_card n m hn hm b, count_card n m hn hm c, count_card n m hn hm e]
  have h1 := card_or_and (fun k => hasL a (k * 10000)) (fun k => hasL b (k * 10000)) (-100000000000) n
  have h2 := card_or_and (fun k => hasL a (unrankI k)) (fun k => hasL b (unrankI k)) (-999900000000000) m
  simp only [hc', he']
  omega
theorem count_pos (d : Nm) : 0 < countR d ↔ ∃ u, inN d u := by
  obtain ⟨n, hn⟩ : ∃ n : Nat, (n : Int) = 200000000001 := ⟨200000000001, rfl⟩
  obtain ⟨m, hm⟩ : ∃ m : Nat, (m : Int) = 1999800000000000 := ⟨1999800000000000, rfl⟩
  rw [count_card n m hn hm d]
  have a1 := card_nonneg (fun k => hasL d (k * 10000)) (-100000000000) n
  have a2 := card_nonneg (fun k => hasL d (unrankI k)) (-999900000000000) m
  have b1 := card_pos (fun k => hasL d (k * 10000)) (-100000000000) n
  have b2 := card_pos (fun k => hasL d (unrankI k)) (-999900000000000) m
  constructor
  · intro h
    by_cases h1 : 0 < card (fun k => hasL d (k * 10000)) (-100000000000) n
    · obtain ⟨u, _, _, h2⟩ := b1.1 h1
      exact ⟨_, (hasL_iff _ _).1 h2⟩
    · obtain ⟨u, _, _, h2⟩ := b2.1 (by omega)
      exact ⟨_, (hasL_iff _ _).1 h2⟩
  · intro ⟨u, hu⟩
    by_cases h0 : u % 10000 = 0
    · have hu2 : u = u / 10000 * 10000 := by omega
      have hu3 := hu
      rw [hu2] at hu3
      have h1 := (inN_whole d _).1 hu3
      have := b1.2 ⟨u / 10000, by omega, by omega, (hasL_iff _ _).2 hu3⟩
      omega
    · have hu2 := unrank_rank u h0
      have hu3 := hu
      rw [← hu2] at hu3
      have h1 := (inN_frac d _).1 hu3
      have := b2.2 ⟨rankI u, by omega, by omega, (hasL_iff _ _).2 hu3⟩
      omega
theorem count_bd (d : Nm) : 0 ≤ countR d ∧ countR d ≤ 3000000000000000 := by
  obtain ⟨n, hn⟩ : ∃ n : Nat, (n : Int) = 200000000001 := ⟨200000000001, rfl⟩
  obtain ⟨m, hm⟩ : ∃ m : Nat, (m : Int) = 1999800000000000 := ⟨1999800000000000, rfl⟩
  rw [count_card n m hn hm d]
  have a1 := card_nonneg (fun k => hasL d (k * 10000)) (-100000000000) n
  have a2 := card_nonneg (fun k => hasL d (unrankI k)) (-999900000000000) m
  have b1 := card_le (fun k => hasL d (k * 10000)) (-100000000000) n
  have b2 := card_le (fun k => hasL d (unrankI k)) (-999900000000000) m
  omega

/-- the nearest number in which a and b differ is a's -/
def LtN (a b : Nm) : Prop := ∃ u, inN a u ∧ ¬ inN b u ∧ ∀ v, key v < key u → (inN a v ↔ inN b v)
theorem LtN.asymm {a b : Nm} (h : LtN a b) (k : LtN b a) : False := by
  obtain ⟨u, h1, h2, h3⟩ := h
  obtain ⟨v, k1, k2, k3⟩ := k
  rcases Int.lt_trichotomy (key u) (key v) with h | h | h
  · exact h2 ((k3 u h).2 h1)
  · have := key_inj h
    subst this
    exact h2 k1
  · exact k2 ((h3 v h).2 k1)
theorem LtN.trans {a b c : Nm} (h : LtN a b) (k : LtN b c) : LtN a c := by
  obtain ⟨u, h1, h2, h3⟩ := h
  obtain ⟨v, k1, k2, k3⟩ := k
  rcases Int.lt_trichotomy (key u) (key v) with h | h | h
  · exact ⟨u, h1, fun hc => h2 ((k3 u h).2 hc), fun t ht => (h3 t ht).trans (k3 t (by omega))⟩
  · have := key_inj h
    subst this
    exact absurd k1 h2
  · exact ⟨v, (h3 v h).2 k1, k2, fun t ht => (h3 t (by omega)).trans (k3 t ht)⟩
theorem LtN.ne {a b : Nm} (h : LtN a b) (k : ∀ u, inN a u ↔ inN b u) : False := by
  obtain ⟨u, h1, h2, _⟩ := h
  exact h2 ((k u).1 h1)
theorem LtN.left {a b c : Nm} (k : ∀ u, inN a u ↔ inN b u) (h : LtN b c) : LtN a c := by
  obtain ⟨u, h1, h2, h3⟩ := h
  exact ⟨u, (k u).2 h1, h2, fun t ht => (k t).trans (h3 t ht)⟩
theorem LtN.right {a b c : Nm} (h : LtN a b) (k : ∀ u, inN b u ↔ inN c u) : LtN a c := by
  obtain ⟨u, h1, h2, h3⟩ := h
  exact ⟨u, h1, fun hc => h2 ((k u).2 hc), fun t ht => (h3 t ht).trans (k t)⟩
def cmpL (p q : Int × Bool) : Int := if !p.2 && !q.2 then 0 else if !q.2 || (p.2 && nearerB p.1 q.1) then -1 else 1
def cmpP (a b : Nm) : Int := cmpL (leastP (minusP a b)) (leastP (minusP b a))
theorem cmpP_cases (a b : Nm) : (cmpP a b = 0 ∧ ∀ u, inN a u ↔ inN b u) ∨ (cmpP a b = -1 ∧ LtN a b) ∨ (cmpP a b = 1 ∧ LtN b a) := by
  have hp := leastP_spec (minusP a b)
  have hq := leastP_spec (minusP b a)
  unfold cmpP
  generalize leastP (minusP a b) = p at *
  generalize leastP (minusP b a) = q at *
  have mp : ∀ u, inN (minusP a b) u ↔ inN a u ∧ ¬ inN b u := fun u => by rw [minusP_eq]; exact minusR_in a b u
  have mq : ∀ u, inN (minusP b a) u ↔ inN b u ∧ ¬ inN a u := fun u => by rw [minusP_eq]; exact minusR_in b a u
  rcases hp with ⟨rfl, p1⟩ | ⟨p1, p2, p3⟩
  · have ab : ∀ u, inN a u → inN b u := fun u hu => Classical.byContradiction fun hn => p1 u ((mp u).2 ⟨hu, hn⟩)
    rcases hq with ⟨rfl, q1⟩ | ⟨q1, q2, q3⟩
    · have ba : ∀ u, inN b u → inN a u := fun u hu => Classical.byContradiction fun hn => q1 u ((mq u).2 ⟨hu, hn⟩)
      exact Or.inl ⟨rfl, fun u => ⟨ab u, ba u⟩⟩
    · have h := (mq _).1 q2
      refine Or.inr (Or.inr ⟨by unfold cmpL; simp [q1], q.1, h.1, h.2, fun v hv => ⟨fun hb => Classical.byContradiction fun hn => ?_, ab v⟩⟩)
      have := q3 v ((mq v).2 ⟨hb, hn⟩)
      omega
  · have hP := (mp _).1 p2
    rcases hq with ⟨rfl, q1⟩ | ⟨q1, q2, q3⟩
    · have ba : ∀ u, inN b u → inN a u := fun u hu => Classical.byContradiction fun hn => q1 u ((mq u).2 ⟨hu, hn⟩)
      refine Or.inr (Or.inl ⟨by unfold cmpL; simp [p1], p.1, hP.1, hP.2, fun v hv => ⟨fun ha => Classical.byContradiction fun hn => ?_, ba v⟩⟩)
      have := p3 v ((mp v).2 ⟨ha, hn⟩)
      omega
    · have hQ := (mq _).1 q2
      by_cases hn : nearerB p.1 q.1 = true
      · have hk := (nearer_key _ _).1 hn
        refine Or.inr (Or.inl ⟨by unfold cmpL; simp [p1, q1, hn], p.1, hP.1, hP.2, fun v hv => ⟨fun ha => Classical.byContradiction fun hb => ?_, fun hb => Classical.byContradiction fun ha => ?_⟩⟩)
        · have := p3 v ((mp v).2 ⟨ha, hb⟩)
          omega
        · have := q3 v ((mq v).2 ⟨hb, ha⟩)
          omega
      · have hk : ¬ key p.1 < key q.1 := fun h => hn ((nearer_key _ _).2 h)
        have hne : key p.1 ≠ key q.1 := fun h => by
          have := key_inj h
          rw [this] at hP
          exact hP.2 hQ.1
        refine Or.inr (Or.inr ⟨by unfold cmpL; simp [p1, q1, hn], q.1, hQ.1, hQ.2, fun v hv => ⟨fun hb => Classical.byContradiction fun ha => ?_, fun ha => Classical.byContradiction fun hb => ?_⟩⟩)
        · have := q3 v ((mq v).2 ⟨hb, ha⟩)
          omega
        · have := p3 v ((mp v).2 ⟨ha, hb⟩)
          omega
theorem cmp_swap (a b : Nm) : cmpP b a = -cmpP a b := by
  rcases cmpP_cases a b with ⟨h1, h2⟩ | ⟨h1, h2⟩ | ⟨h1, h2⟩ <;> rcases cmpP_cases b a with ⟨k1, k2⟩ | ⟨k1, k2⟩ | ⟨k1, k2⟩
  · omega
  · exact (k2.ne fun u => (h2 u).symm).elim
  · exact (k2.ne h2).elim
  · exact (h2.ne fun u => (k2 u).symm).elim
  · exact (h2.asymm k2).elim
  · omega
  · exact (h2.ne k2).elim
  · omega
  · exact (h2.asymm k2).elim
theorem cmp_self (a : Nm) : cmpP a a = 0 := by
  have := cmp_swap a a
  omega
theorem cmp_range (a b : Nm) : -1 ≤ cmpP a b ∧ cmpP a b ≤ 1 := by
  rcases cmpP_cases a b with ⟨h1, _⟩ | ⟨h1, _⟩ | ⟨h1, _⟩ <;> omega
theorem cmp_zero (a b : Nm) : cmpP a b = 0 ↔ makeR a = makeR b := by
  rw [makeR_eq_iff]
  rcases cmpP_cases a b with ⟨h1, h2⟩ | ⟨h1, h2⟩ | ⟨h1, h2⟩
  · exact ⟨fun _ => h2, fun _ => h1⟩
  · exact ⟨fun h => by omega, fun h => (h2.ne h).elim⟩
  · exact ⟨fun h => by omega, fun h => (h2.ne fun u => (h u).symm).elim⟩
theorem cmp_trans (a b c : Nm) (h1 : cmpP a b ≤ 0) (h2 : cmpP b c ≤ 0) : cmpP a c ≤ 0 ∧ (cmpP a c = 0 → cmpP a b = 0 ∧ cmpP b c = 0) := by
  rcases cmpP_cases a b with ⟨x1, x2⟩ | ⟨x1, x2⟩ | ⟨x1, x2⟩ <;> rcases cmpP_cases b c with ⟨y1, y2⟩ | ⟨y1, y2⟩ | ⟨y1, y2⟩ <;> rcases cmpP_cases a c with ⟨z1, z2⟩ | ⟨z1, z2⟩ | ⟨z1, z2⟩ <;> first
    | omega
    | exact ((x2.trans y2).asymm z2).elim
    | exact ((x2.trans y2).ne z2).elim
    | exact ((x2.right y2).asymm z2).elim
    | exact ((x2.right y2).ne z2).elim
    | exact ((LtN.left x2 y2).asymm z2).elim
    | exact ((LtN.left x2 y2).ne z2).elim
    | exact (z2.ne fun u => ((x2 u).trans (y2 u)).symm).elim
theorem cmp_or (a b : Nm) : (cmpP a (orR a b) == 1) = !subsetR b a := by
  have hs := subsetR_iff b a
  rcases cmpP_cases a (orR a b) with ⟨h1, h2⟩ | ⟨h1, h2⟩ | ⟨h1, h2⟩
  · have : subsetR b a = true := hs.2 fun u hu => (h2 u).2 ((orR_in a b u).2 (Or.inr hu))
    rw [h1, this]
    rfl
  · obtain ⟨u, k1, k2, _⟩ := h2
    exact absurd ((orR_in a b u).2 (Or.inl k1)) k2
  · obtain ⟨u, k1, k2, _⟩ := h2
    have : subsetR b a = false := by
      rw [← Bool.not_eq_true]
      intro h
      rcases (orR_in a b u).1 k1 with h3 | h3
      · exact k2 h3
      · exact k2 (hs.1 h u h3)
    rw [h1, this]
    rfl
def cmpR (a b : Nm) : Int :=
  if !(leastR (orR (minusR a b) (minusR b a))).2 then 0 else if hasL a (leastR (orR (minusR a b) (minusR b a))).1 then -1 else 1
theorem cmp_eq (a b : Nm) : cmpP a b = cmpR a b := by
  have hl := leastR_spec (orR (minusR a b) (minusR b a))
  unfold cmpR
  generalize leastR (orR (minusR a b) (minusR b a)) = r at *
  have hm : ∀ u, inN (orR (minusR a b) (minusR b a)) u ↔ (inN a u ∧ ¬ inN b u) ∨ (inN b u ∧ ¬ inN a u) := fun u => by rw [orR_in, minusR_in, minusR_in]
  rcases hl with ⟨rfl, l1⟩ | ⟨l1, l2, l3⟩
  · have hab : ∀ u, inN a u ↔ inN b u := fun u => by
      have := l1 u
      rw [hm] at this
      constructor
      · intro h; exact Classical.byContradiction fun hn => this (Or.inl ⟨h, hn⟩)
      · intro h; exact Classical.byContradiction fun hn => this (Or.inr ⟨h, hn⟩)
    rcases cmpP_cases a b with ⟨h1, h2⟩ | ⟨h1, h2⟩ | ⟨h1, h2⟩
    · rw [h1]; rfl
    · exact (h2.ne hab).elim
    · exact (h2.ne fun u => (hab u).symm).elim
  · have hbe : ∀ v, key v < key r.1 → (inN a v ↔ inN b v) := fun v hv => by
      have h0 : ¬ inN (orR (minusR a b) (minusR b a)) v := fun h => by have := l3 v h; omega
      rw [hm] at h0
      constructor
      · intro h; exact Classical.byContradiction fun hn => h0 (Or.inl ⟨h, hn⟩)
      · intro h; exact Classical.byContradiction fun hn => h0 (Or.inr ⟨h, hn⟩)
    rw [l1]
    rcases (hm _).1 l2 with ⟨ha, hb⟩ | ⟨hb, ha⟩
    · have hlt : LtN a b := ⟨r.1, ha, hb, hbe⟩
      rw [(hasL_iff a r.1).2 ha]
      rcases cmpP_cases a b with ⟨h1, h2⟩ | ⟨h1, h2⟩ | ⟨h1, h2⟩
      · exact (hlt.ne h2).elim
      · rw [h1]; rfl
      · exact (hlt.asymm h2).elim
    · have hlt : LtN b a := ⟨r.1, hb, ha, fun v hv => (hbe v hv).symm⟩
      have hf : hasL a r.1 = false := by rw [← Bool.not_eq_true, hasL_iff]; exact ha
      rw [hf]
      rcases cmpP_cases a b with ⟨h1, h2⟩ | ⟨h1, h2⟩ | ⟨h1, h2⟩
      · exact (hlt.ne fun u => (h2 u).symm).elim
      · exact (hlt.asymm h2).elim
      · rw [h1]; rfl
def singleR (d : Nm) : Int × Bool := if countR d ≠ 1 then (0, false) else leastR d
end Go.Proofs.Ytaianhhmmacblaa
