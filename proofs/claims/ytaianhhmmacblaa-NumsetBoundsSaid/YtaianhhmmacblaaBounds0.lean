import Derived.Test.YtaianhhmmacblaaSets3
import Derived.Test.YtaianhhmmacblaaLawFns
/-
  The bounds: the program's sets are the reference's, and a valid number is in one if it satisfies the comparison.
-/
namespace Go.Proofs.Ytaianhhmmacblaa

def mostN (u : Int) : Nm := ⟨[(-100000000000, floorI u)], [(-1000000000000000, u)]⟩
def boundSR (op : ByteArray) (less most : Nm) : Nm :=
  if eqS op opLt then makeR less else if eqS op opLe then makeR most else if eqS op opGt then notR most else if eqS op opGe then notR less else if eqS op opEq then minusR most less else notR (minusR most less)
def boundR (op : ByteArray) (u : Int) : Nm × Int :=
  if !opsL.any (eqS op) then (⟨[], []⟩, 8) else if !validB u then (⟨[], []⟩, 1) else (boundSR op (lessN u) (mostN u), 0)
theorem mem_one (a b n : Int) : mem [(a, b)] n ↔ a ≤ n ∧ n ≤ b := by rw [mem_cons, mem_nil, or_false]
theorem less_in (u x : Int) : inN (lessN u) x ↔ vld x ∧ x < u := by
  unfold inN lessN vld floorI
  by_cases h : x % 10000 = 0
  · rw [if_pos h, mem_one]
    omega
  · rw [if_neg h, mem_one]
    omega
theorem most_in (u x : Int) : inN (mostN u) x ↔ vld x ∧ x ≤ u := by
  unfold inN mostN vld floorI
  by_cases h : x % 10000 = 0
  · rw [if_pos h, mem_one]
    omega
  · rw [if_neg h, mem_one]
    omega
theorem one_in (u x : Int) : inN (oneN u) x ↔ vld x ∧ x = u := by
  unfold inN oneN vld floorI
  by_cases h : x % 10000 = 0
  · rw [if_pos h, mem_one]
    omega
  · rw [if_neg h, mem_one]
    omega
theorem bound_in (op : ByteArray) (u x : Int) : inN (boundS op (makeR (lessN u)) (makeR (oneN u))) x ↔ vld x ∧ holdsL op x u = true := by
  unfold boundS holdsL
  by_cases h1 : eqS op opLt = true
  · rw [if_pos h1, if_pos h1, makeR_in, less_in, decide_eq_true_eq]
  · rw [if_neg h1, if_neg h1]
    by_cases h2 : eqS op opLe = true
    · rw [if_pos h2, if_pos h2, orR_in, makeR_in, makeR_in, less_in, one_in, decide_eq_true_eq]
      by_cases hv : vld x
      · simp only [hv, true_and]
        omega
      · simp only [hv, false_and, or_false]
    · rw [if_neg h2, if_neg h2]
      by_cases h3 : eqS op opGt = true
      · rw [if_pos h3, if_pos h3, notP_eq, notR_in, orR_in, makeR_in, makeR_in, less_in, one_in, decide_eq_true_eq]
        constructor
        · intro ⟨k1, k2⟩
          refine ⟨k1, ?_⟩
          by_cases h : u < x
          · exact h
          · exact absurd (by by_cases h' : x < u; exact Or.inl ⟨k1, h'⟩; exact Or.inr ⟨k1, by omega⟩) k2
        · intro ⟨k1, k2⟩
          exact ⟨k1, by omega⟩
      · rw [if_neg h3, if_neg h3]
        by_cases h4 : eqS op opGe = true
        · rw [if_pos h4, if_pos h4, notP_eq, notR_in, makeR_in, less_in, decide_eq_true_eq]
          constructor
          · intro ⟨k1, k2⟩
            refine ⟨k1, ?_⟩
            by_cases h : u ≤ x
            · exact h
            · exact absurd ⟨k1, by omega⟩ k2
          · intro ⟨k1, k2⟩
            exact ⟨k1, by omega⟩
        · rw [if_neg h4, if_neg h4]
          by_cases h5 : eqS op opEq = true
          · rw [if_pos h5, if_pos h5, makeR_in, one_in, beq_iff_eq]
          · rw [if_neg h5, if_neg h5, notP_eq, notR_in, makeR_in, one_in, bne_iff_ne]
            constructor
            · intro ⟨k1, k2⟩
              exact ⟨k1, fun h => k2 ⟨k1, h⟩⟩
            · intro ⟨k1, k2⟩
              exact ⟨k1, fun h => k2 h.2⟩
theorem boundR_in (op : ByteArray) (u x : Int) : inN (boundSR op (lessN u) (mostN u)) x ↔ vld x ∧ holdsL op x u = true := by
  unfold boundSR holdsL
  by_cases h1 : eqS op opLt = true
  · rw [if_pos h1, if_pos h1, makeR_in, less_in, decide_eq_true_eq]
  · rw [if_neg h1, if_neg h1]
    by_cases h2 : eqS op opLe = true
    · rw [if_pos h2, if_pos h2, makeR_in, most_in, decide_eq_true_eq]
    · rw [if_neg h2, if_neg h2]
      by_cases h3 : eqS op opGt = true
      · rw [if_pos h3, if_pos h3, notR_in, most_in, decide_eq_true_eq]
        constructor
        · intro ⟨k1, k2⟩
          refine ⟨k1, ?_⟩
          by_cases h : u < x
          · exact h
          · exact absurd ⟨k1, by omega⟩ k2
        · intro ⟨k1, k2⟩
          exact ⟨k1, by omega⟩
      · rw [if_neg h3, if_neg h3]
        by_cases h4 : eqS op opGe = true
        · rw [if_pos h4, if_pos h4, notR_in, less_in, decide_eq_true_eq]
          constructor
          · intro ⟨k1, k2⟩
            refine ⟨k1, ?_⟩
            by_cases h : u ≤ x
            · exact h
            · exact absurd ⟨k1, by omega⟩ k2
          · intro ⟨k1, k2⟩
            exact ⟨k1, by omega⟩
        · rw [if_neg h4, if_neg h4]
          by_cases h5 : eqS op opEq = true
          · rw [if_pos h5, if_pos h5, minusR_in, most_in, less_in, beq_iff_eq]
            constructor
            · intro ⟨⟨k1, k2⟩, k3⟩
              refine ⟨k1, ?_⟩
              by_cases h : x = u
              · exact h
              · exact absurd ⟨k1, by omega⟩ k3
            · intro ⟨k1, k2⟩
              exact ⟨⟨k1, by omega⟩, by omega⟩
          · rw [if_neg h5, if_neg h5, notR_in, minusR_in, most_in, less_in, bne_iff_ne]
            constructor
            · intro ⟨k1, k2⟩
              exact ⟨k1, fun h => k2 ⟨⟨k1, by omega⟩, by omega⟩⟩
            · intro ⟨k1, k2⟩
              refine ⟨k1, fun ⟨⟨_, k3⟩, k4⟩ => ?_⟩
              by_cases h : x < u
              · exact k4 ⟨k1, h⟩
              · omega
theorem boundS_can (op : ByteArray) (a b : Nm) (ha : CanN a) (hb : CanN b) : CanN (boundS op a b) := by
  unfold boundS
  by_cases h1 : eqS op opLt = true
  · rw [if_pos h1]; exact ha
  · rw [if_neg h1]
    by_cases h2 : eqS op opLe = true
    · rw [if_pos h2]; exact orR_can a b
    · rw [if_neg h2]
      by_cases h3 : eqS op opGt = true
      · rw [if_pos h3, notP_eq]; exact notR_can _
      · rw [if_neg h3]
        by_cases h4 : eqS op opGe = true
        · rw [if_pos h4, notP_eq]; exact notR_can _
        · rw [if_neg h4]
          by_cases h5 : eqS op opEq = true
          · rw [if_pos h5]; exact hb
          · rw [if_neg h5, notP_eq]; exact notR_can _
theorem boundSR_can (op : ByteArray) (a b : Nm) : CanN (boundSR op a b) := by
  unfold boundSR
  by_cases h1 : eqS op opLt = true
  · rw [if_pos h1]; exact makeR_can a
  · rw [if_neg h1]
    by_cases h2 : eqS op opLe = true
    · rw [if_pos h2]; exact makeR_can b
    · rw [if_neg h2]
      by_cases h3 : eqS op opGt = true
      · rw [if_pos h3]; exact notR_can b
      · rw [if_neg h3]
        by_cases h4 : eqS op opGe = true
        · rw [if_pos h4]; exact notR_can a
        · rw [if_neg h4]
          by_cases h5 : eqS op opEq = true
          · rw [if_pos h5]; exact minusR_can b a
          · rw [if_neg h5]; exact notR_can _
theorem bound_eq (op : ByteArray) (u : Int) : boundP op u = boundR op u := by
  unfold boundP boundR
  rw [(boundS_can op _ _ (makeR_can (lessN u)) (makeR_can (oneN u))).ext (boundSR_can op (lessN u) (mostN u)) fun x => (bound_in op u x).trans (boundR_in op u x).symm]
theorem bound_has (op : ByteArray) (u x : Int) (h : (boundP op u).2 = 0) : hasP (boundP op u).1 x = (validB x && holdsL op x u) := by
  unfold boundP at h ⊢
  split at h
  · exact absurd h (by simp)
  · rename_i h1
    rw [if_neg h1]
    split at h
    · exact absurd h (by simp)
    · rename_i h2
      rw [if_neg h2, Bool.eq_iff_iff, hasP_iff, bound_in, Bool.and_eq_true, valid_iff]
      rfl
end Go.Proofs.Ytaianhhmmacblaa
