import Derived.Test.YtaianhhmmacblaaLeaf
/-
  Contracts of the functions of integers, part 2: nearer, nearest, the comparisons.
-/
namespace Go.Proofs.Ytaianhhmmacblaa
open Go.RowKit

theorem ret_bool {a b : Bool} (h : a = b) : Ending.returned (.bool a) = .returned (.bool b) := by rw [h]
theorem ret_int {k : IntKind} {a b : Int} (h : a = b) : Ending.returned (.int k a) = .returned (.int k b) := by rw [h]

theorem nearerP_any (u v : Int) (w : World) (h1 : -4000000000000000000 ≤ u) (h2 : u ≤ 4000000000000000000) (h3 : -4000000000000000000 ≤ v) (h4 : v ≤ 4000000000000000000) :
    Calls Try.prog 57 #[.int .i64 u, .int .i64 v] w fun e w' => e = .returned (.bool (nearerB u v)) ∧ w = w' := by
  have hu := Lib.hid (absI_cases u)
  have hv := Lib.hid (absI_cases v)
  have hn := Lib.hid (nearer_iff u v)
  generalize nearerB u v = r at *
  go_enter Try.func57, Try.ntmps57
  go_wp2
  all_goals
    go_ret
    refine ⟨ret_bool ?_, rfl⟩
    have hu := hu.out
    have hv := hv.out
    have hn := hn.out
    rw [Bool.eq_iff_iff, hn]
    simp only [decide_eq_true_eq, Bool.false_eq_true, true_iff, false_iff]
    omega

theorem nearerR_any (u v : Int) (w : World) (h1 : -4000000000000000000 ≤ u) (h2 : u ≤ 4000000000000000000) (h3 : -4000000000000000000 ≤ v) (h4 : v ≤ 4000000000000000000) :
    Calls Try.prog 32 #[.int .i64 u, .int .i64 v] w fun e w' => e = .returned (.bool (nearerB u v)) ∧ w = w' := by
  have hu := Lib.hid (absI_cases u)
  have hv := Lib.hid (absI_cases v)
  have hn := Lib.hid (nearer_iff u v)
  generalize nearerB u v = r at *
  go_enter Try.func32, Try.ntmps32
  go_wp2
  all_goals
    go_ret
    refine ⟨ret_bool ?_, rfl⟩
    have hu := hu.out
    have hv := hv.out
    have hn := hn.out
    rw [Bool.eq_iff_iff, hn]
    simp only [decide_eq_true_eq, Bool.false_eq_true, true_iff, false_iff]
    omega

theorem nearest_any (a b m : Int) (w : World) :
    Calls Try.prog 58 #[.agg #[.int .i64 a, .int .i64 b], .int .i64 m] w fun e w' => e = .returned (.int .i64 (if 0 < a then a else if b < 0 then b else m)) ∧ Below w.heap.size w w' := by
  go_enter Try.func58, Try.ntmps58
  by_cases h1 : 0 < a
  · rw [if_pos h1]
    go_wp2
    go_ret
    exact ⟨rfl, (Below.refl _ _).alloc (Nat.le_refl _) _⟩
  · rw [if_neg h1]
    by_cases h2 : b < 0
    · rw [if_pos h2]
      go_wp2
      go_ret
      exact ⟨rfl, (Below.refl _ _).alloc (Nat.le_refl _) _⟩
    · rw [if_neg h2]
      go_wp2
      go_ret
      exact ⟨rfl, (Below.refl _ _).alloc (Nat.le_refl _) _⟩

/-- the six operators' texts -/
def opLt : ByteArray := { data := #[60] }
def opLe : ByteArray := { data := #[60, 61] }
def opGt : ByteArray := { data := #[62] }
def opGe : ByteArray := { data := #[62, 61] }
def opEq : ByteArray := { data := #[61, 61] }
def opNe : ByteArray := { data := #[33, 61] }

end Go.Proofs.Ytaianhhmmacblaa
