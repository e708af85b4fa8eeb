import Derived.Test.YtaianhhmmacblaaProg
import Derived.Test.YtaianhhmmacblaaMath0
import Derived.WalkKit
import Derived.Outline
import Derived.WalkSpells
import Derived.WalkLawsBesides
import Derived.Lib.Hide
import Derived.BigQuiet
import Derived.Deep.QuietTactic
/-
  Contracts of the functions of integers.
-/
namespace Go.Proofs.Ytaianhhmmacblaa
open Go.RowKit

theorem floorP_any (u : Int) (w : World) (h1 : -4000000000000000000 ≤ u) (h2 : u ≤ 4000000000000000000) :
    Calls Try.prog 50 #[.int .i64 u] w fun e w' => e = .returned (.int .i64 (floorI u)) ∧ w = w' := by
  have hf := tdiv_floor u 10000 (by omega)
  have hb := tdiv_bound u 10000 (by omega) (-4000000000000000000) 4000000000000000000 (by omega) (by omega) h1 h2
  unfold floorI
  go_enter Try.func50, Try.ntmps50
  by_cases h : u.tmod 10000 < 0
  · have e := hf.1 h
    rw [← e]
    clear hf e
    go_wp2
    go_ret
    exact ⟨rfl, rfl⟩
  · have h' : 0 ≤ u.tmod 10000 := by omega
    have e := hf.2 h'
    rw [← e]
    clear hf e h
    go_wp2
    go_ret
    exact ⟨rfl, rfl⟩

theorem floorR_any (u : Int) (w : World) (h1 : -4000000000000000000 ≤ u) (h2 : u ≤ 4000000000000000000) :
    Calls Try.prog 51 #[.int .i64 u] w fun e w' => e = .returned (.int .i64 (floorI u)) ∧ w = w' := by
  have hf := tdiv_floor u 10000 (by omega)
  have hb := tdiv_bound u 10000 (by omega) (-4000000000000000000) 4000000000000000000 (by omega) (by omega) h1 h2
  unfold floorI
  go_enter Try.func51, Try.ntmps51
  by_cases h : u.tmod 10000 < 0
  · have e := hf.1 h
    rw [← e]
    clear hf e
    go_wp2
    go_ret
    exact ⟨rfl, rfl⟩
  · have h' : 0 ≤ u.tmod 10000 := by omega
    have e := hf.2 h'
    rw [← e]
    clear hf e h
    go_wp2
    go_ret
    exact ⟨rfl, rfl⟩

theorem whole_any (u : Int) (w : World) (h1 : -4000000000000000000 ≤ u) (h2 : u ≤ 4000000000000000000) :
    Calls Try.prog 65 #[.int .i64 u] w fun e w' => e = .returned (.int .i64 (u + 1)) ∧ w = w' := by
  go_enter Try.func65, Try.ntmps65
  go_wp2
  go_ret
  exact ⟨rfl, rfl⟩

theorem back_any (u : Int) (w : World) (h1 : -4000000000000000000 ≤ u) (h2 : u ≤ 4000000000000000000) :
    Calls Try.prog 66 #[.int .i64 u] w fun e w' => e = .returned (.int .i64 (u - 1)) ∧ w = w' := by
  go_enter Try.func66, Try.ntmps66
  go_wp2
  go_ret
  exact ⟨rfl, rfl⟩

theorem after_any (u : Int) (w : World) (h1 : -4000000000000000000 ≤ u) (h2 : u ≤ 4000000000000000000) :
    Calls Try.prog 67 #[.int .i64 u] w fun e w' => e = .returned (.int .i64 (afterI u)) ∧ w = w' := by
  have hz := tmod_zero (u + 1) 10000
  unfold afterI
  by_cases h : (u + 1) % 10000 = 0
  · have h' : ((u + 1).tmod 10000 == 0) = true := beq_iff_eq.2 (hz.2 h)
    rw [if_pos h]
    clear hz h
    go_enter Try.func67, Try.ntmps67
    go_wp2
    go_ret
    exact ⟨rfl, rfl⟩
  · have h' : ((u + 1).tmod 10000 == 0) = false := by rw [beq_eq_false_iff_ne]; exact fun e => h (hz.1 e)
    rw [if_neg h]
    clear hz h
    go_enter Try.func67, Try.ntmps67
    go_wp2
    go_ret
    exact ⟨rfl, rfl⟩

theorem before_any (u : Int) (w : World) (h1 : -4000000000000000000 ≤ u) (h2 : u ≤ 4000000000000000000) :
    Calls Try.prog 68 #[.int .i64 u] w fun e w' => e = .returned (.int .i64 (beforeI u)) ∧ w = w' := by
  have hz := tmod_zero (u - 1) 10000
  unfold beforeI
  by_cases h : (u - 1) % 10000 = 0
  · have h' : ((u - 1).tmod 10000 == 0) = true := beq_iff_eq.2 (hz.2 h)
    rw [if_pos h]
    clear hz h
    go_enter Try.func68, Try.ntmps68
    go_wp2
    go_ret
    exact ⟨rfl, rfl⟩
  · have h' : ((u - 1).tmod 10000 == 0) = false := by rw [beq_eq_false_iff_ne]; exact fun e => h (hz.1 e)
    rw [if_neg h]
    clear hz h
    go_enter Try.func68, Try.ntmps68
    go_wp2
    go_ret
    exact ⟨rfl, rfl⟩

theorem wholeR_any (u : Int) (w : World) :
    Calls Try.prog 72 #[.int .i64 u] w fun e w' => e = .returned (.bool (decide (u % 10000 = 0))) ∧ w = w' := by
  have hz := tmod_zero u 10000
  have hd : decide (u % 10000 = 0) = (u.tmod 10000 == 0) := by
    rw [Bool.eq_iff_iff]; simp [hz]
  rw [hd]
  clear hz hd
  go_enter Try.func72, Try.ntmps72
  go_wp2
  all_goals (go_ret; exact ⟨rfl, rfl⟩)

theorem validP_any (u : Int) (w : World) :
    Calls Try.prog 49 #[.int .i64 u] w fun e w' => e = .returned (.bool (validB u)) ∧ w = w' := by
  unfold validB
  go_enter Try.func49, Try.ntmps49
  by_cases h1 : -1000000000000000 ≤ u
  · by_cases h2 : u ≤ 1000000000000000
    · go_wp2
      go_ret
      exact ⟨by simp [h1, h2], rfl⟩
    · have h2' : decide (u ≤ 1000000000000000) = false := by simpa using h2
      go_wp2
      go_ret
      exact ⟨by simp, rfl⟩
  · have h1' : decide (-1000000000000000 ≤ u) = false := by simpa using h1
    go_wp2
    go_ret
    exact ⟨by simp, rfl⟩

theorem validR_any (u : Int) (w : World) :
    Calls Try.prog 17 #[.int .i64 u] w fun e w' => e = .returned (.bool (validB u)) ∧ w = w' := by
  unfold validB
  go_enter Try.func17, Try.ntmps17
  by_cases h1 : -1000000000000000 ≤ u
  · by_cases h2 : u ≤ 1000000000000000
    · go_wp2
      go_ret
      exact ⟨by simp [h1, h2], rfl⟩
    · have h2' : decide (u ≤ 1000000000000000) = false := by simpa using h2
      go_wp2
      go_ret
      exact ⟨by simp, rfl⟩
  · have h1' : decide (-1000000000000000 ≤ u) = false := by simpa using h1
    go_wp2
    go_ret
    exact ⟨by simp, rfl⟩

theorem rank_any (u : Int) (w : World) (h1 : -4000000000000000 ≤ u) (h2 : u ≤ 4000000000000000) :
    Calls Try.prog 80 #[.int .i64 u] w fun e w' => e = .returned (.int .i64 (rankI u)) ∧ w = w' := by
  have hq1 : -4000000000000000 ≤ u / 10000 := by omega
  have hq2 : u / 10000 ≤ 4000000000000000 := by omega
  have hq3 : -4000000000000000 ≤ u / 10000 * 10000 := by omega
  have hq4 : u / 10000 * 10000 ≤ 4000000000000000 := by omega
  unfold rankI
  go_enter Try.func80, Try.ntmps80
  go_wp2_with (go_at_call 51; refine (floorR_any _ _ (by omega) (by omega)).mono ?_; unfold floorI; rintro e w' ⟨rfl, rfl⟩)
  go_ret
  exact ⟨rfl, rfl⟩

theorem unrank_any (u : Int) (w : World) (h1 : -4000000000000000 ≤ u) (h2 : u ≤ 4000000000000000) :
    Calls Try.prog 87 #[.int .i64 u] w fun e w' => e = .returned (.int .i64 (unrankI u)) ∧ w = w' := by
  have hf := tdiv_floor u 9999 (by omega)
  have hb := tdiv_bound u 9999 (by omega) (-4000000000000000) 4000000000000000 (by omega) (by omega) h1 h2
  unfold unrankI
  go_enter Try.func87, Try.ntmps87
  by_cases h : u.tmod 9999 < 0
  · have e := hf.1 h
    have b3 : -4100000000000000 ≤ (u.tdiv 9999 - 1) * 10000 := by rw [e]; omega
    have b4 : (u.tdiv 9999 - 1) * 10000 ≤ 4100000000000000 := by rw [e]; omega
    have b5 : -4100000000000000 ≤ (u.tdiv 9999 - 1) * 9999 := by rw [e]; omega
    have b6 : (u.tdiv 9999 - 1) * 9999 ≤ 4100000000000000 := by rw [e]; omega
    rw [← e]
    clear hf e
    go_wp2
    go_ret
    exact ⟨rfl, rfl⟩
  · have h' : 0 ≤ u.tmod 9999 := by omega
    have e := hf.2 h'
    have b3 : -4100000000000000 ≤ u.tdiv 9999 * 10000 := by rw [e]; omega
    have b4 : u.tdiv 9999 * 10000 ≤ 4100000000000000 := by rw [e]; omega
    have b5 : -4100000000000000 ≤ u.tdiv 9999 * 9999 := by rw [e]; omega
    have b6 : u.tdiv 9999 * 9999 ≤ 4100000000000000 := by rw [e]; omega
    rw [← e]
    clear hf e h
    go_wp2
    go_ret
    exact ⟨rfl, rfl⟩

end Go.Proofs.Ytaianhhmmacblaa
/-
  Contracts of the functions of integers, part 2: nearer, nearest, the comparisons.
-/
namespace Go.Proofs.Ytaianhhmmacblaa
open Go.RowKit

theorem ret_bool {a b : Bool} (h : a = b) : Ending.returned (.bool a) = .returned (.bool b) := by rw [h]
theorem ret_int {k : IntKind} {a b : Int} (h : a = b) : Ending.returned (.int k a) = .returned (.int k b) := by rw [h]

theorem nearerP_any (u v : Int) (w : World) (h1 : -4000000000000000000 ≤ u) (h2 : u ≤ 4000000000000000000) (h3 : -4000000000000000000 ≤ v) (h4 : v ≤ 4000000000000000000) :
    Calls Try.prog 57 #[.int .i64 u, .int .i64 v] w fun e w' => e = .returned (.bool (nearerB u v)) ∧ w = w' := by
  have hu := Lib.hid (absI_cases u)
  have hv := Lib.hid (absI_cases v)
  have hn := Lib.hid (nearer_iff u v)
  generalize nearerB u v = r at *
  go_enter Try.func57, Try.ntmps57
  go_wp2
  all_goals
    go_ret
    refine ⟨ret_bool ?_, rfl⟩
    have hu := hu.out
    have hv := hv.out
    have hn := hn.out
    rw [Bool.eq_iff_iff, hn]
    simp only [decide_eq_true_eq, Bool.false_eq_true, true_iff, false_iff]
    omega

theorem nearerR_any (u v : Int) (w : World) (h1 : -4000000000000000000 ≤ u) (h2 : u ≤ 4000000000000000000) (h3 : -4000000000000000000 ≤ v) (h4 : v ≤ 4000000000000000000) :
    Calls Try.prog 32 #[.int .i64 u, .int .i64 v] w fun e w' => e = .returned (.bool (nearerB u v)) ∧ w = w' := by
  have hu := Lib.hid (absI_cases u)
  have hv := Lib.hid (absI_cases v)
  have hn := Lib.hid (nearer_iff u v)
  generalize nearerB u v = r at *
  go_enter Try.func32, Try.ntmps32
  go_wp2
  all_goals
    go_ret
    refine ⟨ret_bool ?_, rfl⟩
    have hu := hu.out
    have hv := hv.out
    have hn := hn.out
    rw [Bool.eq_iff_iff, hn]
    simp only [decide_eq_true_eq, Bool.false_eq_true, true_iff, false_iff]
    omega

theorem nearest_any (a b m : Int) (w : World) :
    Calls Try.prog 58 #[.agg #[.int .i64 a, .int .i64 b], .int .i64 m] w fun e w' => e = .returned (.int .i64 (if 0 < a then a else if b < 0 then b else m)) ∧ Below w.heap.size w w' := by
  go_enter Try.func58, Try.ntmps58
  by_cases h1 : 0 < a
  · rw [if_pos h1]
    go_wp2
    go_ret
    exact ⟨rfl, (Below.refl _ _).alloc (Nat.le_refl _) _⟩
  · rw [if_neg h1]
    by_cases h2 : b < 0
    · rw [if_pos h2]
      go_wp2
      go_ret
      exact ⟨rfl, (Below.refl _ _).alloc (Nat.le_refl _) _⟩
    · rw [if_neg h2]
      go_wp2
      go_ret
      exact ⟨rfl, (Below.refl _ _).alloc (Nat.le_refl _) _⟩

/-- the six operators' texts -/
def opLt : ByteArray := { data := #[60] }
def opLe : ByteArray := { data := #[60, 61] }
def opGt : ByteArray := { data := #[62] }
def opGe : ByteArray := { data := #[62, 61] }
def opEq : ByteArray := { data := #[61, 61] }
def opNe : ByteArray := { data := #[33, 61] }

end Go.Proofs.Ytaianhhmmacblaa
