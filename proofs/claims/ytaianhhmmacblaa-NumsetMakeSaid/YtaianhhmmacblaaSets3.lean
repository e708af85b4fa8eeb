import Derived.Test.YtaianhhmmacblaaSets2
/-
  The nearest member, the number of members, the order of sets: what they mean.
-/
namespace Go.Proofs.Ytaianhhmmacblaa

/-- how far a number is: 0, 1, -1, 2, -2, .. -/
def key (u : Int) : Int := if 0 < u then 2 * u - 1 else -2 * u
theorem key_cases (u : Int) : (0 < u ∧ key u = 2 * u - 1) ∨ (u ≤ 0 ∧ key u = -2 * u) := by
  unfold key
  by_cases h : 0 < u
  · exact Or.inl ⟨h, if_pos h⟩
  · exact Or.inr ⟨by omega, if_neg h⟩
theorem nearer_key (u v : Int) : nearerB u v = true ↔ key u < key v := by
  rw [nearer_iff]
  have a := key_cases u
  have b := key_cases v
  have c := absI_cases u
  have d := absI_cases v
  omega
theorem key_inj {u v : Int} (h : key u = key v) : u = v := by
  have a := key_cases u
  have b := key_cases v
  omega
theorem tk_fold : ∀ (l : List Int) (s : Int),
    (l.foldl tk (s, true)).2 = true ∧ ((l.foldl tk (s, true)).1 = s ∨ (l.foldl tk (s, true)).1 ∈ l) ∧ key (l.foldl tk (s, true)).1 ≤ key s ∧ ∀ u ∈ l, key (l.foldl tk (s, true)).1 ≤ key u
  | [], s => ⟨rfl, Or.inl rfl, Int.le_refl _, fun _ h => (nomatch h)⟩
  | x :: l, s => by
    rw [List.foldl_cons]
    by_cases hn : nearerB x s = true
    · have ht : tk (s, true) x = (x, true) := by unfold tk; simp [hn]
      rw [ht]
      have hk := (nearer_key x s).1 hn
      obtain ⟨h1, h2, h3, h4⟩ := tk_fold l x
      refine ⟨h1, Or.inr ?_, by omega, fun u hu => ?_⟩
      · rcases h2 with h2 | h2
        · rw [h2]; exact List.mem_cons_self
        · exact List.mem_cons_of_mem _ h2
      · rcases List.mem_cons.1 hu with rfl | hu
        · exact h3
        · exact h4 u hu
    · have ht : tk (s, true) x = (s, true) := by unfold tk; simp [hn]
      rw [ht]
      have hk : ¬ key x < key s := fun h => hn ((nearer_key x s).2 h)
      obtain ⟨h1, h2, h3, h4⟩ := tk_fold l s
      refine ⟨h1, ?_, h3, fun u hu => ?_⟩
      · rcases h2 with h2 | h2
        · exact Or.inl h2
        · exact Or.inr (List.mem_cons_of_mem _ h2)
      · rcases List.mem_cons.1 hu with rfl | hu
        · omega
        · exact h4 u hu
/-- r tells the nearest member of d -/
def IsLeast (d : Nm) (r : Int × Bool) : Prop := (r = (0, false) ∧ ∀ v, ¬ inN d v) ∨ (r.2 = true ∧ inN d r.1 ∧ ∀ v, inN d v → key r.1 ≤ key v)
theorem IsLeast.unique {d : Nm} {r r' : Int × Bool} (h : IsLeast d r) (h' : IsLeast d r') : r = r' := by
  rcases h with ⟨h1, h2⟩ | ⟨h1, h2, h3⟩
  · rcases h' with ⟨k1, k2⟩ | ⟨k1, k2, k3⟩
    · rw [h1, k1]
    · exact absurd k2 (h2 _)
  · rcases h' with ⟨k1, k2⟩ | ⟨k1, k2, k3⟩
    · exact absurd h2 (k2 _)
    · have e := key_inj (Int.le_antisymm (h3 _ k2) (k3 _ h2))
      exact Prod.ext e (by rw [h1, k1])
theorem IsLeast.congr {a b : Nm} {r : Int × Bool} (h : ∀ u, inN a u ↔ inN b u) (k : IsLeast a r) : IsLeast b r := by
  rcases k with ⟨h1, h2⟩ | ⟨h1, h2, h3⟩
  · exact Or.inl ⟨h1, fun v hv => h2 v ((h v).2 hv)⟩
  · exact Or.inr ⟨h1, (h _).1 h2, fun v hv => h3 v ((h v).2 hv)⟩
theorem least_cands (d : Nm) (l : List Int) (h1 : ∀ u ∈ l, inN d u) (h2 : ∀ v, inN d v → ∃ u ∈ l, key u ≤ key v) : IsLeast d (l.foldl tk (0, false)) := by
  match l, h1, h2 with
  | [], h1, h2 => exact Or.inl ⟨rfl, fun v hv => by obtain ⟨u, hu, _⟩ := h2 v hv; exact (nomatch hu)⟩
  | x :: l, h1, h2 =>
    rw [List.foldl_cons, show tk (0, false) x = (x, true) by unfold tk; rfl]
    obtain ⟨k1, k2, k3, k4⟩ := tk_fold l x
    refine Or.inr ⟨k1, ?_, fun v hv => ?_⟩
    · rcases k2 with k2 | k2
      · rw [k2]; exact h1 _ List.mem_cons_self
      · exact h1 _ (List.mem_cons_of_mem _ k2)
    · obtain ⟨u, hu, hk⟩ := h2 v hv
      rcases List.mem_cons.1 hu with rfl | hu
      · omega
      · have := k4 u hu; omega

theorem can_int {d : Nm} (h : CanN d) {s : Int × Int} (hs : s ∈ d.ints) {n : Int} (h1 : s.1 ≤ n) (h2 : n ≤ s.2) : inN d (n * 10000) := by
  have := h.ri s hs
  exact (inN_whole d n).2 ⟨by omega, s, hs, h1, h2⟩
theorem can_fr {d : Nm} (h : CanN d) {s : Int × Int} (hs : s ∈ d.fracs) : s.1 ≤ s.2 ∧ ¬ s.1 % 10000 = 0 ∧ ¬ s.2 % 10000 = 0 ∧ vld s.1 ∧ vld s.2 := by
  obtain ⟨c, h1, h2, h3⟩ := h.cf
  rw [h3] at hs
  obtain ⟨x, hx, rfl⟩ := List.mem_map.1 hs
  have a := h2 x hx
  have b := h1.1 x hx
  refine ⟨(unrank_le _ _).2 b, unrank_nw _, unrank_nw _, ?_, ?_⟩
  · unfold unrankS unrankI vld; simp only; omega
  · unfold unrankS unrankI vld; simp only; omega
theorem can_frac {d : Nm} (h : CanN d) {s : Int × Int} (hs : s ∈ d.fracs) {u : Int} (h0 : ¬ u % 10000 = 0) (h1 : s.1 ≤ u) (h2 : u ≤ s.2) : inN d u := by
  have := can_fr h hs
  unfold vld at this
  unfold inN
  rw [if_neg h0]
  exact ⟨by omega, s, hs, h1, h2⟩
theorem can_mem {d : Nm} (_h : CanN d) {v : Int} (hv : inN d v) : (∃ s ∈ d.ints, ∃ n, v = n * 10000 ∧ s.1 ≤ n ∧ n ≤ s.2) ∨ (¬ v % 10000 = 0 ∧ ∃ s ∈ d.fracs, s.1 ≤ v ∧ v ≤ s.2) := by
  unfold inN at hv
  by_cases h0 : v % 10000 = 0
  · rw [if_pos h0] at hv
    obtain ⟨_, s, hs, h1, h2⟩ := hv
    exact Or.inl ⟨s, hs, v / 10000, by omega, h1, h2⟩
  · rw [if_neg h0] at hv
    obtain ⟨_, s, hs, h1, h2⟩ := hv
    exact Or.inr ⟨h0, s, hs, h1, h2⟩

theorem nearI_cases (s : Int × Int) (m : Int) : (s.1 > 0 ∧ nearI s m = s.1) ∨ (s.1 ≤ 0 ∧ s.2 < 0 ∧ nearI s m = s.2) ∨ (s.1 ≤ 0 ∧ 0 ≤ s.2 ∧ nearI s m = m) := by
  unfold nearI
  by_cases h1 : s.1 > 0
  · exact Or.inl ⟨h1, if_pos h1⟩
  · rw [if_neg h1]
    by_cases h2 : s.2 < 0
    · exact Or.inr (Or.inl ⟨by omega, h2, if_pos h2⟩)
    · exact Or.inr (Or.inr ⟨by omega, by omega, if_neg h2⟩)
def candP (d : Nm) : List Int := d.ints.map (fun s => nearI s 0 * 10000) ++ d.fracs.map (fun s => nearI s 1)
theorem leastP_cand (d : Nm) : leastP d = (candP (makeR d)).foldl tk (0, false) := by
  unfold leastP candP
  rw [List.foldl_append, List.foldl_map, List.foldl_map]
theorem candP_least {d : Nm} (h : CanN d) : IsLeast d ((candP d).foldl tk (0, false)) := by
  refine least_cands d _ (fun u hu => ?_) (fun v hv => ?_)
  · unfold candP at hu
    rcases List.mem_append.1 hu with hu | hu
    · obtain ⟨s, hs, rfl⟩ := List.mem_map.1 hu
      have := h.ci.1 s hs
      have := nearI_cases s 0
      exact can_int h hs (by omega) (by omega)
    · obtain ⟨s, hs, rfl⟩ := List.mem_map.1 hu
      have := can_fr h hs
      have := nearI_cases s 1
      exact can_frac h hs (by omega) (by omega) (by omega)
  · unfold candP
    rcases can_mem h hv with ⟨s, hs, n, rfl, h1, h2⟩ | ⟨h0, s, hs, h1, h2⟩
    · refine ⟨nearI s 0 * 10000, List.mem_append_left _ (List.mem_map.2 ⟨s, hs, rfl⟩), ?_⟩
      have a := nearI_cases s 0
      have b := key_cases (nearI s 0 * 10000)
      have c := key_cases (n * 10000)
      omega
    · refine ⟨nearI s 1, List.mem_append_right _ (List.mem_map.2 ⟨s, hs, rfl⟩), ?_⟩
      have a := nearI_cases s 1
      have b := key_cases (nearI s 1)
      have c := key_cases v
      omega
theorem leastP_spec (d : Nm) : IsLeast d (leastP d) := by
  rw [leastP_cand]
  exact (candP_least (makeR_can d)).congr (makeR_in d)

/-- the reference's candidates -/
def candI (acc : List Int) (s : Int × Int) : List Int := acc ++ [s.1 * 10000, s.2 * 10000]
def candF (acc : List Int) (s : Int × Int) : List Int := if decide (s.1 < 0) && decide (s.2 > 0) then acc ++ [s.1, s.2] ++ [1] else acc ++ [s.1, s.2]
def zeroB (s : Int × Int) : Bool := decide (s.1 ≤ 0) && decide (s.2 ≥ 0)
def leastC (d : Nm) : Int × Bool :=
  if d.ints.any zeroB then (0, true) else (d.fracs.foldl candF (d.ints.foldl candI [])).foldl tk (0, false)
def leastR (d : Nm) : Int × Bool := leastC (makeR d)
theorem ex_cons {α : Type} {x : α} {l : List α} {p : α → Prop} : (∃ s, s ∈ x :: l ∧ p s) ↔ p x ∨ ∃ s, s ∈ l ∧ p s := by simp
theorem candI_mem (l : List (Int × Int)) (acc : List Int) (u : Int) : u ∈ l.foldl candI acc ↔ u ∈ acc ∨ ∃ s, s ∈ l ∧ (u = s.1 * 10000 ∨ u = s.2 * 10000) := by
  induction l generalizing acc with
  | nil => simp
  | cons x l ih =>
    rw [List.foldl_cons, ih, ex_cons, ← or_assoc]
    refine or_congr ?_ Iff.rfl
    unfold candI
    simp only [List.mem_append, List.mem_cons, List.not_mem_nil, or_false]
theorem candF_mem (l : List (Int × Int)) (acc : List Int) (u : Int) : u ∈ l.foldl candF acc ↔ u ∈ acc ∨ ∃ s, s ∈ l ∧ (u = s.1 ∨ u = s.2 ∨ (u = 1 ∧ s.1 < 0 ∧ s.2 > 0)) := by
  induction l generalizing acc with
  | nil => simp
  | cons x l ih =>
    rw [List.foldl_cons, ih, ex_cons, ← or_assoc]
    refine or_congr ?_ Iff.rfl
    unfold candF
    by_cases hc : x.1 < 0 ∧ x.2 > 0
    · rw [if_pos (by simp [hc])]
      simp only [List.mem_append, List.mem_cons, List.not_mem_nil, or_false, or_assoc, hc, and_true]
    · rw [if_neg (by simp; intro h1; have := fun h2 => hc ⟨h1, h2⟩; omega)]
      simp only [List.mem_append, List.mem_cons, List.not_mem_nil, or_false, hc, and_false]
theorem leastC_spec {d : Nm} (h : CanN d) : IsLeast d (leastC d) := by
  unfold leastC
  by_cases hz : d.ints.any zeroB = true
  · rw [if_pos hz]
    obtain ⟨s, hs, hk⟩ := List.any_eq_true.1 hz
    unfold zeroB at hk
    simp only [Bool.and_eq_true, decide_eq_true_eq] at hk
    refine Or.inr ⟨rfl, ?_, fun v _ => ?_⟩
    · have := can_int h hs (n := 0) hk.1 hk.2
      exact this
    · have := key_cases v
      have := key_cases 0
      simp only
      omega
  · rw [if_neg hz]
    have hn : ∀ s ∈ d.ints, ¬ (s.1 ≤ 0 ∧ s.2 ≥ 0) := fun s hs hc => hz (List.any_eq_true.2 ⟨s, hs, by unfold zeroB; simp [hc]⟩)
    refine least_cands d _ (fun u hu => ?_) (fun v hv => ?_)
    · rw [candF_mem, candI_mem] at hu
      rcases hu with (hu | ⟨s, hs, rfl | rfl⟩) | ⟨s, hs, hu⟩
      · exact (nomatch hu)
      · exact can_int h hs (Int.le_refl _) (h.ci.1 s hs)
      · exact can_int h hs (h.ci.1 s hs) (Int.le_refl _)
      · have := can_fr h hs
        exact can_frac h hs (by omega) (by omega) (by omega)
    · rcases can_mem h hv with ⟨s, hs, n, rfl, h1, h2⟩ | ⟨h0, s, hs, h1, h2⟩
      · have hz' := hn s hs
        have c := key_cases (n * 10000)
        by_cases h3 : s.1 > 0
        · refine ⟨s.1 * 10000, ?_, ?_⟩
          · rw [candF_mem, candI_mem]; exact Or.inl (Or.inr ⟨s, hs, Or.inl rfl⟩)
          · have b := key_cases (s.1 * 10000)
            omega
        · refine ⟨s.2 * 10000, ?_, ?_⟩
          · rw [candF_mem, candI_mem]; exact Or.inl (Or.inr ⟨s, hs, Or.inr rfl⟩)
          · have b := key_cases (s.2 * 10000)
            omega
      · have c := key_cases v
        have e := can_fr h hs
        by_cases h3 : s.1 > 0
        · refine ⟨s.1, ?_, ?_⟩
          · rw [candF_mem]; exact Or.inr ⟨s, hs, Or.inl rfl⟩
          · have b := key_cases s.1
            omega
        · by_cases h4 : s.2 < 0
          · refine ⟨s.2, ?_, ?_⟩
            · rw [candF_mem]; exact Or.inr ⟨s, hs, Or.inr (Or.inl rfl)⟩
            · have b := key_cases s.2
              omega
          · refine ⟨1, ?_, ?_⟩
            · rw [candF_mem]; exact Or.inr ⟨s, hs, Or.inr (Or.inr ⟨rfl, by omega, by omega⟩)⟩
            · have b := key_cases 1
              omega
theorem leastR_spec (d : Nm) : IsLeast d (leastR d) := (leastC_spec (makeR_can d)).congr (makeR_in d)
theorem least_eq (d : Nm) : leastP d = leastR d := (leastP_spec d).unique (leastR_spec d)

/-- how many of the numbers lo, lo + 1, .. satisfy p -/
def card (p : Int → Bool) (lo : Int) : Nat → Int
  | 0 => 0
  | n + 1 => card p lo n + if p (lo + n) then 1 else 0
theorem card_or_and (p q : Int → Bool) (lo : Int) : ∀ n, card (fun u => p u || q u) lo n + card (fun u => p u && q u) lo n = card p lo n + card q lo n
  | 0 => rfl
  | n + 1 => by
    have := card_or_and p q lo n
    simp only [card]
    rcases Bool.eq_false_or_eq_true (p (lo + n)) with h1 | h1 <;> rcases Bool.eq_false_or_eq_true (q (lo + n)) with h2 | h2 <;> simp [h1, h2] <;> omega
theorem card_congr {p q : Int → Bool} {lo : Int} : ∀ {n : Nat}, (∀ u, lo ≤ u → u < lo + n → p u = q u) → card p lo n = card q lo n
  | 0, _ => rfl
  | n + 1, h => by
    simp only [card]
    rw [card_congr (n := n) fun u h1 h2 => h u h1 (by omega), h (lo + n) (by omega) (by omega)]
theorem card_nonneg (p : Int → Bool) (lo : Int) : ∀ n, 0 ≤ card p lo n
  | 0 => Int.le_refl _
  | n + 1 => by
    have := card_nonneg p lo n
    simp only [card]
    split <;> omega
theorem card_pos (p : Int → Bool) (lo : Int) : ∀ n, 0 < card p lo n ↔ ∃ u, lo ≤ u ∧ u < lo + n ∧ p u = true
  | 0 => by simp only [card]; exact ⟨fun h => absurd h (by omega), fun ⟨u, h1, h2, _⟩ => absurd h1 (by omega)⟩
  | n + 1 => by
    have ih := card_pos p lo n
    have h0 := card_nonneg p lo n
    simp only [card]
    cases hp : p (lo + n) with
    | true =>
      refine ⟨fun _ => ⟨lo + n, by omega, by omega, hp⟩, fun _ => ?_⟩
      simp; omega
    | false =>
      simp only [Bool.false_eq_true, if_false, Int.add_zero, ih]
      refine ⟨fun ⟨u, h1, h2, h3⟩ => ⟨u, h1, by omega, h3⟩, fun ⟨u, h1, h2, h3⟩ => ⟨u, h1, ?_, h3⟩⟩
      have : u ≠ lo + n := fun e => by rw [e, hp] at h3; exact (nomatch h3)
      omega
def inB' (a b n : Int) : Bool := decide (a ≤ n) && decide (n ≤ b)
theorem card_span (a b lo : Int) : ∀ (n : Nat), card (inB' a b) lo n = max 0 (min b (lo + n - 1) - max a lo + 1)
  | 0 => by simp only [card]; omega
  | n + 1 => by
    have ih := card_span a b lo n
    simp only [card]
    rw [ih]
    unfold inB'
    by_cases h1 : a ≤ lo + n <;> by_cases h2 : lo + n ≤ b <;> simp [h1, h2] <;> omega
end Go.Proofs.Ytaianhhmmacblaa
