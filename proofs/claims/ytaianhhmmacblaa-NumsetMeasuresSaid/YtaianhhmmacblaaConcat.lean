import Derived.Test.YtaianhhmmacblaaRelOps
import Derived.Lib.AppendZerosOnto
import Derived.Lib.SliceRun
import Derived.Lib.Walk
/-
  slices.Grow of a nil slice, slices.Concat of two slices of spans.
-/
namespace Go.Proofs.Ytaianhhmmacblaa
open Go.RowKit

set_option maxRecDepth 100000 in
set_option maxHeartbeats 1000000 in
theorem grow_any (w : World) (n : Nat) (hn : n ≤ 10000000) : Calls Try.prog 81 #[.slice none 0 0, .int .i64 n] w fun e w' => ∃ r, e = .returned r ∧ Own w' w.heap.size r [] ∧ Ext w w' := by
  by_cases h0 : n = 0
  · subst h0
    go_enter Try.func81, Try.ntmps81
    go_wp2
    go_ret
    exact ⟨_, rfl, Own.nil _ _, Ext.refl _⟩
  · obtain ⟨i0, hi0, hz0, hz1, hz2⟩ := info_parts info_span
    have hrz : ∀ ty, (Builtin.append_ #[22, 3] ty #[.slice none 0 0, .int .i64 (n : Int)]).run Try.prog w = _ := fun ty =>
      Lib.run_append_grow_zeros w 22 3 ty 45 i0 _ .i64 .i64 Try.underlying22 Try.underlying3 hi0 hz0 none 0 0 [] (run_firstCells_none _ _ _ _ _) n (by omega) (by omega) (by omega) (by omega) (by rw [hz2]; omega) (growslice_fits (by omega) (by rw [hz2]; omega))
    have hge := grownCap_ge w (0 + n) 0 45
    have hle := grownCap_le_maxLen w (0 + n) 0 45 (by unfold maxLen; omega)
    generalize grownCap w (0 + n) 0 45 = G at hrz hge hle
    have hsz : (([] : List Value).toArray ++ Builtin.zeroCells (Value.agg #[.int .i64 0, .int .i64 0]).cells n ++ Builtin.zeroCells (Value.agg #[.int .i64 0, .int .i64 0]).cells (G - (0 + n))).size = G * 2 := by
      have hzs : (Value.agg #[.int .i64 0, .int .i64 0]).cells.size = 2 := rfl
      simp only [Array.size_append, List.size_toArray, List.length_nil, size_zeroCells, hzs]
      omega
    generalize (([] : List Value).toArray ++ Builtin.zeroCells (Value.agg #[.int .i64 0, .int .i64 0]).cells n ++ Builtin.zeroCells (Value.agg #[.int .i64 0, .int .i64 0]).cells (G - (0 + n))) = C at hrz hsz
    simp only [Nat.zero_add] at hrz hge
    have hrow := World.ownsRow_made (base := w.heap.size) (e := 45) (size := 2) w.drew C G (Nat.le_refl _) hle hsz
    have hG : G ≤ 9223372036854775807 := by unfold maxLen at hle; omega
    have HR := Lib.hid hrow
    clear hrow hi0 hz0 hz1 hz2 hsz hle
    go_enter Try.func81, Try.ntmps81
    go_wp2_with (at_builtin; refine Lib.wpList_append_run _ rfl _ _ _ _ rfl _ _ rfl rfl _ _ (hrz _) ?_)
    all_goals
      go_ret
      exact ⟨_, rfl, HR.out, ((Ext.refl w).drew).alloc _⟩

set_option maxRecDepth 100000 in
set_option maxHeartbeats 1000000 in
theorem concat_any (w : World) (g : Nat) (v1 v2 : Value) (l1 l2 : List Sp) (h1 : SpAt w v1 l1) (h2 : SpAt w v2 l2) (hl1 : l1.length ≤ 1000000) (hl2 : l2.length ≤ 1000000)
    (hg0 : w.cell? ⟨g, 0, none⟩ = some v1) (hg1 : w.cell? ⟨g, 1, none⟩ = some v2) (hg : g < w.heap.size) :
    Calls Try.prog 61 #[.slice (some ⟨g, 0, none⟩) 2 2] w fun e w' => ∃ r, e = .returned r ∧ SpAt w' r (l1 ++ l2) ∧ Ext w w' := by
  obtain ⟨A1, c1, rfl, hA1⟩ := h1
  obtain ⟨A2, c2, rfl, hA2⟩ := h2
  go_enter Try.func61, Try.ntmps61
  go_wp2
  have hp : decide ((0 : Int) ≤ (l1.length : Int)) = true := decide_eq_true (by omega)
  refine wp_loop_rounds 3 ?_
  rw [rounds_succ]
  go_wp2_with fail
  rw [rounds_succ]
  go_wp2_with fail
  rw [rounds_succ]
  go_wp2_with fail
  refine (grow_any w (l1.length + l2.length) (by omega)).mono ?_
  rintro e w1 ⟨r, rfl, hown, hE1⟩
  have hc0 := (hE1.cell ⟨g, 0, none⟩ hg).trans hg0
  have hc1 := (hE1.cell ⟨g, 1, none⟩ hg).trans hg1
  have hB1 := hA1.below hE1
  have hB2 := hA2.below hE1
  clear hg0 hg1
  go_wp2_with fail
  refine wp_loop_rounds 3 ?_
  rw [rounds_succ]
  go_wp2_with (at_builtin; refine app_many rfl _ _ rfl w.heap.size _ [] A1 c1 l1 rfl hown rfl (hB1.mono hE1.size) (by simp; omega) hE1.size ?_)
  intro v2 w2 hown2 hBa _
  have hd1 := (hBa.cell (p := ⟨g, 1, none⟩) hg).trans hc1
  have hD2 := hB2.below hBa
  have hsz1 := hE1.size
  have hsz2 := hBa.size
  clear hc0 hc1
  go_wp2_with fail
  rw [rounds_succ]
  go_wp2_with (at_builtin; refine app_many rfl _ _ rfl w.heap.size _ l1 A2 c2 l2 rfl hown2 rfl (hD2.mono (by omega)) (by omega) (by omega) ?_)
  intro v3 w3 hown3 hBb _
  have hE9 : Ext w w3 := Below.trans (Below.trans hE1 hBa) hBb
  clear hd1
  go_wp2_with fail
  rw [rounds_succ]
  go_wp2_with fail
  obtain ⟨A3, c3, rfl⟩ := hown3.form
  go_ret
  exact ⟨_, rfl, ⟨A3, c3, rfl, hown3.at_.2⟩, hE9⟩
end Go.Proofs.Ytaianhhmmacblaa
