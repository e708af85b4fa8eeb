import Derived.Test.YtaianhhmmacblaaNormal
import Derived.Test.YtaianhhmmacblaaRelOps
import Derived.Test.YtaianhhmmacblaaMath0
import Derived.Test.YtaianhhmmacblaaLeaf
/-
  The reference's ints, gaps.
-/
namespace Go.Proofs.Ytaianhhmmacblaa
open Go.RowKit

set_option maxRecDepth 100000 in
set_option maxHeartbeats 1000000 in
theorem intsR_any (w : World) (v : Value) (d : Nm) (h : NmAt w v d) (hl : d.ints.length ≤ 100000000) :
    Calls Try.prog 59 #[v] w fun e w' => ∃ r, e = .returned r ∧ SpAt w' r (intsR d.ints) ∧ Ext w w' := by
  obtain ⟨A, c, A', c', rfl, h1, h2⟩ := h
  obtain ⟨l, l'⟩ := d
  simp only at hl h1 h2
  go_enter Try.func59, Try.ntmps59
  go_wp2
  go_loopw [3, 9] (fun v i wr => ∃ k : Nat, k ≤ l.length ∧ i = .int .i64 k ∧ Own wr (w.heap.size + 1) v ((l.take k).map clampI) ∧ Ext w wr ∧ w.heap.size + 1 ≤ wr.heap.size) (fun _ i _ => l.length - (intOf i).toNat)
  case atStart => exact ⟨0, Nat.zero_le _, rfl, Own.nil _ _, (Ext.refl _).alloc _, by simp⟩
  case round =>
    obtain ⟨k, hk, rfl, hown, hE, hsz⟩ := hrel
    by_cases hlt : k < l.length
    · obtain ⟨b, off, rfl, hbB, hc0, hc1⟩ := h1.at_ hlt
      have hd0 := (hE.cell ⟨b, off + k * 2, none⟩ hbB).trans hc0
      have hd1 := (hE.cell ⟨b, off + k * 2 + 1, none⟩ hbB).trans hc1
      have hmap := map_take clampI l k hlt
      clear hc0 hc1
      generalize l[k] = s at *
      obtain ⟨lo, hi⟩ := s
      simp only [clampI] at hd0 hd1 hmap
      have Hm := Lib.hid hmap
      clear hmap
      have hlen : ((l.take k).map clampI).length ≤ k := by rw [List.length_map, List.length_take]; omega
      have hmx := run_max_i64 Try.prog
      have hmn := run_min_i64 Try.prog
      go_wp2_with (at_builtin; refine app_one rfl _ _ rfl (w.heap.size + 1) _ _ _ _ _ rfl ((hown.alloc _).alloc _) rfl (cell_two0 _ _ _ _) (cell_two1 _ _ _ _) (by omega) (by simp; omega) ?_)
      intro v' w1 hown1 hB1 _
      have hown1 : Own w1 (w.heap.size + 1) v' ((l.take (k + 1)).map clampI) := own_cast hown1 (by rw [Hm.out]; simp)
      have hsz1 := hB1.size
      simp at hsz1
      have hE1 : Ext w w1 := Below.trans (B := w.heap.size) ((hE.alloc _).alloc _) (hB1.mono (by omega))
      clear hB1
      go_wp2
      go_roundw
      case rel => exact ⟨k + 1, by omega, by go_num, hown1, hE1, by omega⟩
      case measure => simp [intOf]; omega
    · have hkl : k = l.length := by omega
      subst hkl
      rw [List.take_of_length_le (Nat.le_refl _)] at hown
      obtain ⟨A2, c2, rfl⟩ := hown.form
      have hat := hown.at_.2
      have hbd := clampI_bdr l
      have hlen : (l.map clampI).length ≤ 100000000 := by rw [List.length_map]; omega
      obtain ⟨lc, hlc⟩ : ∃ lc, lc = l.map clampI := ⟨_, rfl⟩
      have Hfin : Hid (intsR l = normalL lc) := Lib.hid (by unfold intsR; rw [hlc])
      rw [← hlc] at hat hbd hlen hown ⊢
      clear hlc
      go_wp2_with (go_at_call 79; refine (normal_any _ A2 c2 lc hat hlen hbd).mono ?_; rintro e w2 ⟨r, rfl, hr, hE2⟩)
      obtain ⟨A3, c3, rfl⟩ := hr.form
      go_ret
      refine ⟨_, rfl, ?_, hE.trans hE2⟩
      rw [Hfin.out]
      exact ⟨A3, c3, rfl, hr.at_.2⟩
end Go.Proofs.Ytaianhhmmacblaa
