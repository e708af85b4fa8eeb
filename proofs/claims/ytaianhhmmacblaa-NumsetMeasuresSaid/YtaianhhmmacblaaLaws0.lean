import Derived.Test.YtaianhhmmacblaaSets3
/-
  The laws of a Boolean algebra, for the sets of numbers.
-/
namespace Go.Proofs.Ytaianhhmmacblaa

theorem same_of {a b : Nm} (ha : CanN a) (hb : CanN b) (h : ∀ u, inN a u ↔ inN b u) : sameN a b = true := (sameN_tt a b).2 (ha.ext hb h)
theorem l_and_comm (a b : Nm) : sameN (andR a b) (andR b a) = true := same_of (andR_can _ _) (andR_can _ _) fun u => by
  rw [andR_in, andR_in]
  exact And.comm
theorem l_or_comm (a b : Nm) : sameN (orR a b) (orR b a) = true := same_of (orR_can _ _) (orR_can _ _) fun u => by
  rw [orR_in, orR_in]
  exact Or.comm
theorem l_distr (a b c : Nm) : sameN (andR a (orR b c)) (orR (andR a b) (andR a c)) = true := same_of (andR_can _ _) (orR_can _ _) fun u => by
  rw [andR_in, orR_in, orR_in, andR_in, andR_in]
  by_cases ha : inN a u <;> simp [ha]
theorem l_morgan (a b : Nm) : sameN (notR (orR a b)) (andR (notR a) (notR b)) = true := same_of (notR_can _) (andR_can _ _) fun u => by
  rw [andR_in, notR_in, notR_in, notR_in, orR_in]
  by_cases hv : vld u <;> simp [hv]
theorem l_absorb1 (a b : Nm) : sameN (andR a (orR a b)) (makeR a) = true := same_of (andR_can _ _) (makeR_can _) fun u => by
  rw [andR_in, orR_in, makeR_in]
  by_cases ha : inN a u <;> simp [ha]
theorem l_absorb2 (a b : Nm) : sameN (orR a (andR a b)) (makeR a) = true := same_of (orR_can _ _) (makeR_can _) fun u => by
  rw [orR_in, andR_in, makeR_in]
  by_cases ha : inN a u <;> simp [ha]
theorem l_notnot (a : Nm) : sameN (notR (notR a)) (makeR a) = true := same_of (notR_can _) (makeR_can _) fun u => by
  rw [notR_in, notR_in, makeR_in]
  by_cases ha : inN a u
  · simp [ha, inN_vld ha]
  · simp [ha]
theorem l_middle (a : Nm) : sameN (orR a (notR a)) allN = true := same_of (orR_can _ _) allN_can fun u => by
  rw [orR_in, notR_in, allN_in]
  by_cases ha : inN a u
  · simp [ha, inN_vld ha]
  · simp [ha]
theorem l_subset (a b : Nm) : sameN (andR a b) (makeR a) = subsetR a b := by
  rw [Bool.eq_iff_iff, sameN_tt, subsetR_iff]
  constructor
  · intro h u hu
    have h1 := (makeR_in a u).2 hu
    rw [← h, andR_in] at h1
    exact h1.2
  · intro h
    refine (andR_can a b).ext (makeR_can a) fun u => ?_
    rw [andR_in, makeR_in]
    exact ⟨fun k => k.1, fun k => ⟨k, h u k⟩⟩
theorem l_sub_and (a b : Nm) : subsetR (andR a b) a = true := (subsetR_iff _ _).2 fun u h => ((andR_in a b u).1 h).1
theorem l_sub_or (a b : Nm) : subsetR a (orR a b) = true := (subsetR_iff _ _).2 fun u h => (orR_in a b u).2 (Or.inl h)
theorem l_cmp_same (a b : Nm) : sameN (makeR a) (makeR b) = (cmpP a b == 0) := by
  rw [Bool.eq_iff_iff, sameN_tt, beq_iff_eq]
  exact (cmp_zero a b).symm
theorem cmp_ways (a b c : Nm) : (0 < cmpP a b) ∨ (cmpP a b ≤ 0 ∧ 0 < cmpP b c) ∨ (cmpP a b ≤ 0 ∧ cmpP b c ≤ 0 ∧ cmpP a c < 0) ∨
    ((cmpP a b ≤ 0 ∧ 0 ≤ cmpP a b) ∧ (cmpP b c ≤ 0 ∧ 0 ≤ cmpP b c) ∧ (cmpP a c ≤ 0 ∧ 0 ≤ cmpP a c)) := by
  have h := cmp_trans a b c
  omega
end Go.Proofs.Ytaianhhmmacblaa
