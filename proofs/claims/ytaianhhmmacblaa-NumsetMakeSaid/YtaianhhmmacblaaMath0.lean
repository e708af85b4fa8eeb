/-
  Plain arithmetic for the sets of numbers: quotients and remainders as Go takes them, against Lean's own.
-/
namespace Go.Proofs.Ytaianhhmmacblaa

def floorI (u : Int) : Int := u / 10000
def afterI (u : Int) : Int := if (u + 1) % 10000 = 0 then u + 2 else u + 1
def beforeI (u : Int) : Int := if (u - 1) % 10000 = 0 then u - 2 else u - 1
def absI (u : Int) : Int := if 0 ≤ u then u else -u
def nearerB (u v : Int) : Bool := decide (absI u < absI v) || (decide (absI u = absI v) && decide (v < u))
def validB (u : Int) : Bool := decide (-1000000000000000 ≤ u) && decide (u ≤ 1000000000000000)
def rankI (u : Int) : Int := (u / 10000) * 9999 + (u - (u / 10000) * 10000) - 1
def unrankI (k : Int) : Int := (k / 9999) * 10000 + (k - (k / 9999) * 9999) + 1

theorem tdiv_floor (u d : Int) (hd : 0 < d) : (u.tmod d < 0 → u.tdiv d - 1 = u / d) ∧ (0 ≤ u.tmod d → u.tdiv d = u / d) := by
  have h1 := Int.mul_tdiv_add_tmod u d
  have h2 := Int.emod_add_mul_ediv u d
  have h3 := Int.emod_nonneg u (by omega : d ≠ 0)
  have h4 := Int.emod_lt_of_pos u hd
  have h5 : u.tmod d < d := Int.tmod_lt_of_pos u hd
  have h6 : -d < u.tmod d := by
    have := Int.tmod_lt_of_pos (-u) hd
    rw [Int.neg_tmod] at this
    omega
  refine ⟨fun h => ?_, fun h => ?_⟩
  · have : d * (u.tdiv d - 1) + (u.tmod d + d) = u := by rw [Int.mul_sub, Int.mul_one]; omega
    have := (Int.ediv_emod_unique hd (a := u) (r := u.tmod d + d) (q := u.tdiv d - 1)).2 ⟨by omega, by omega, by omega⟩
    exact this.1.symm
  · have := (Int.ediv_emod_unique hd (a := u) (r := u.tmod d) (q := u.tdiv d)).2 ⟨by omega, by omega, by omega⟩
    exact this.1.symm

theorem tmod_zero (u d : Int) : u.tmod d = 0 ↔ u % d = 0 := by
  rw [← Int.dvd_iff_tmod_eq_zero, ← Int.dvd_iff_emod_eq_zero]

theorem tdiv_whole (u d : Int) (h : u % d = 0) : u.tdiv d = u / d := Int.tdiv_eq_ediv_of_dvd (Int.dvd_of_emod_eq_zero h)
theorem tdiv_bound (u d : Int) (hd : 1 < d) (lo hi : Int) (hlo : lo ≤ 0) (hhi : 0 ≤ hi) (h1 : lo ≤ u) (h2 : u ≤ hi) : lo ≤ u.tdiv d ∧ u.tdiv d ≤ hi := by
  have h := tdiv_floor u d (by omega)
  have h3 := Int.mul_tdiv_add_tmod u d
  rcases Int.lt_or_le u 0 with hu | hu
  · have e : u.tdiv d = -((-u).tdiv d) := by rw [Int.neg_tdiv]; omega
    have h4 : (-u).tdiv d ≤ -u := Int.tdiv_le_self d (by omega)
    have h5 : 0 ≤ (-u).tdiv d := Int.tdiv_nonneg (by omega) (by omega)
    omega
  · have h4 : u.tdiv d ≤ u := Int.tdiv_le_self d hu
    have h5 : 0 ≤ u.tdiv d := Int.tdiv_nonneg hu (by omega)
    omega

theorem absI_cases (u : Int) : (0 ≤ u ∧ absI u = u) ∨ (u < 0 ∧ absI u = -u) := by
  unfold absI
  by_cases h : 0 ≤ u
  · exact .inl ⟨h, if_pos h⟩
  · exact .inr ⟨by omega, if_neg h⟩
theorem nearer_iff (u v : Int) : nearerB u v = true ↔ absI u < absI v ∨ (absI u = absI v ∧ v < u) := by
  unfold nearerB; simp
theorem valid_iff (u : Int) : validB u = true ↔ -1000000000000000 ≤ u ∧ u ≤ 1000000000000000 := by
  unfold validB; simp

theorem ite_max (x y : Int) : (if x < y then y else x) = max x y := by split <;> omega
theorem ite_min (x y : Int) : (if y < x then y else x) = min x y := by split <;> omega

end Go.Proofs.Ytaianhhmmacblaa
