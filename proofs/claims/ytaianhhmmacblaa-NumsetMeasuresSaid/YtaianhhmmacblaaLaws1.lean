import Derived.Test.YtaianhhmmacblaaLaws0
import Derived.Test.YtaianhhmmacblaaCmpP
/-
  Plain facts for the laws on measures and members.
-/
namespace Go.Proofs.Ytaianhhmmacblaa

theorem wrap_sml {x : Int} (h : -9223372036854775808 ≤ x ∧ x ≤ 9223372036854775807) : IntKind.i64.wrap x = x := by
  unfold IntKind.wrap
  simp [IntKind.signed, IntKind.bits]
  omega
theorem single_eq (d : Nm) : singleP d = singleR d := by
  unfold singleP singleR
  rw [count_eq, least_eq]
theorem has_and (a b : Nm) (n : Int) : hasL (andR a b) n = (hasL a n && hasL b n) := by
  rw [Bool.eq_iff_iff, Bool.and_eq_true, hasL_iff, hasL_iff, hasL_iff, andR_in]
theorem has_or (a b : Nm) (n : Int) : hasL (orR a b) n = (hasL a n || hasL b n) := by
  rw [Bool.eq_iff_iff, Bool.or_eq_true, hasL_iff, hasL_iff, hasL_iff, orR_in]
theorem has_not (a : Nm) (n : Int) : hasL (notR a) n = (hasL allN n && !hasL a n) := by
  rw [Bool.eq_iff_iff, Bool.and_eq_true, hasL_iff, hasL_iff, notR_in, allN_in, Bool.not_eq_true', ← Bool.not_eq_true, hasL_iff]
theorem has_minus (a b : Nm) (n : Int) : hasL (minusR a b) n = (hasL a n && !hasL b n) := by
  rw [Bool.eq_iff_iff, Bool.and_eq_true, hasL_iff, hasL_iff, minusR_in, Bool.not_eq_true', ← Bool.not_eq_true, hasL_iff]
theorem has_all (n : Int) : hasL allN n = validB n := by
  rw [Bool.eq_iff_iff, hasL_iff, allN_in, valid_iff]
  rfl
theorem has_vld (a : Nm) (n : Int) (h : hasL a n = true) : hasL allN n = true := by
  rw [hasL_iff, allN_in]
  exact inN_vld ((hasL_iff _ _).1 h)
theorem not_sub (a b : Nm) (n : Int) (h1 : hasL a n = true) (h2 : hasL b n = false) : subsetR a b = false := by
  rw [← Bool.not_eq_true]
  intro h
  have := (hasL_iff b n).2 ((subsetR_iff a b).1 h n ((hasL_iff a n).1 h1))
  rw [h2] at this
  cases this
theorem v_and (a b : Nm) : validNR (andR a b) = true := (validNR_iff _).2 (andR_can _ _)
theorem v_or (a b : Nm) : validNR (orR a b) = true := (validNR_iff _).2 (orR_can _ _)
theorem v_not (a : Nm) : validNR (notR a) = true := (validNR_iff _).2 (notR_can _)
theorem v_minus (a b : Nm) : validNR (minusR a b) = true := (validNR_iff _).2 (minusR_can _ _)
theorem cnt_two (a b : Nm) : countR a + countR b ≤ countR (orR a b) + countR (andR a b) ∧ countR (orR a b) + countR (andR a b) ≤ countR a + countR b := by
  have := count_union (a := a) (b := b) (c := orR a b) (e := andR a b) (fun u => orR_in a b u) (fun u => andR_in a b u)
  omega
theorem cnt_nil : countR ⟨[], []⟩ = 0 := rfl
theorem cnt_not (a : Nm) : countR a + countR (notR a) ≤ countR allN ∧ countR allN ≤ countR a + countR (notR a) := by
  have := count_union (a := a) (b := notR a) (c := allN) (e := ⟨[], []⟩) (fun u => by
    rw [notR_in, allN_in]
    by_cases ha : inN a u
    · simp [ha, inN_vld ha]
    · simp [ha]) (fun u => by
    rw [notR_in]
    exact ⟨fun h => absurd h (not_in_nil u), fun h => absurd h.1 h.2.2⟩)
  rw [cnt_nil] at this
  omega
/-- the nearest member, the only one: three ways -/
theorem least_ways (a : Nm) : (countR a ≤ 0 ∧ leastR a = (0, false) ∧ singleR a = (0, false)) ∨
    (countR a ≤ 1 ∧ 1 ≤ countR a ∧ leastR a = ((leastR a).1, true) ∧ singleR a = ((leastR a).1, true) ∧ hasL a (leastR a).1 = true) ∨
    (2 ≤ countR a ∧ leastR a = ((leastR a).1, true) ∧ singleR a = (0, false) ∧ hasL a (leastR a).1 = true) := by
  have hl := leastR_spec a
  have hp := count_pos a
  have hb := count_bd a
  unfold singleR
  rcases hl with ⟨h1, h2⟩ | ⟨h1, h2, h3⟩
  · have h0 : ¬ 0 < countR a := fun h => by obtain ⟨u, hu⟩ := hp.1 h; exact h2 u hu
    exact Or.inl ⟨by omega, h1, by rw [if_pos (by omega)]⟩
  · have h0 : 0 < countR a := hp.2 ⟨_, h2⟩
    have he : leastR a = ((leastR a).1, true) := Prod.ext rfl h1
    by_cases hc : countR a = 1
    · refine Or.inr (Or.inl ⟨by omega, by omega, he, ?_, (hasL_iff _ _).2 h2⟩)
      rw [if_neg (by simpa using hc)]
      exact he
    · exact Or.inr (Or.inr ⟨by omega, he, by rw [if_pos (by simpa using hc)], (hasL_iff _ _).2 h2⟩)
theorem least_rng (a : Nm) : -9223372036854775808 ≤ (leastR a).1 ∧ (leastR a).1 ≤ 9223372036854775807 := by
  have := leastP_bd a
  rw [least_eq] at this
  omega
theorem least_sml (a : Nm) : -2000000000000000 ≤ (leastR a).1 ∧ (leastR a).1 ≤ 2000000000000000 := by
  have := leastP_bd a
  rw [least_eq] at this
  omega
theorem has_sml (a : Nm) (n : Int) (h : hasL a n = true) : -1000000000000000 ≤ n ∧ n ≤ 1000000000000000 := inN_vld ((hasL_iff a n).1 h)
/-- a number: not a member, the nearest one, another one -/
theorem near_ways (a : Nm) (n : Int) : (hasL a n = false) ∨ (hasL a n = true ∧ n = (leastR a).1) ∨ (hasL a n = true ∧ n ≠ (leastR a).1) := by
  cases h : hasL a n
  · exact Or.inl rfl
  · by_cases e : n = (leastR a).1
    · exact Or.inr (Or.inl ⟨rfl, e⟩)
    · exact Or.inr (Or.inr ⟨rfl, e⟩)
theorem least_near (a : Nm) (n : Int) (h : hasL a n = true) (hne : n ≠ (leastR a).1) : nearerB (leastR a).1 n = true := by
  rcases leastR_spec a with ⟨h1, h2⟩ | ⟨h1, h2, h3⟩
  · exact absurd ((hasL_iff _ _).1 h) (h2 n)
  · rw [nearer_key]
    have h4 := h3 n ((hasL_iff _ _).1 h)
    have h5 : key (leastR a).1 ≠ key n := fun e => hne (key_inj e).symm
    omega
/-- a number's membership: six ways -/
theorem mem_ways (a b : Nm) (n : Int) :
    (hasL allN n = true ∧ hasL a n = true ∧ hasL b n = true ∧ (-1000000000000000 ≤ n ∧ n ≤ 1000000000000000)) ∨
    (hasL allN n = true ∧ hasL a n = true ∧ hasL b n = false ∧ (-1000000000000000 ≤ n ∧ n ≤ 1000000000000000)) ∨
    (hasL allN n = true ∧ hasL a n = false ∧ hasL b n = true ∧ (-1000000000000000 ≤ n ∧ n ≤ 1000000000000000)) ∨
    (hasL allN n = true ∧ hasL a n = false ∧ hasL b n = false ∧ (-1000000000000000 ≤ n ∧ n ≤ 1000000000000000)) ∨
    (hasL allN n = false ∧ hasL a n = false ∧ hasL b n = false ∧ n < -1000000000000000) ∨
    (hasL allN n = false ∧ hasL a n = false ∧ hasL b n = false ∧ (-1000000000000000 ≤ n ∧ 1000000000000000 < n)) := by
  have ha := has_vld a n
  have hb := has_vld b n
  have hv := valid_iff n
  rw [has_all] at *
  cases hx : hasL a n <;> cases hy : hasL b n <;> cases ht : validB n <;> simp [hx, hy, ht] at *
  all_goals omega
end Go.Proofs.Ytaianhhmmacblaa
