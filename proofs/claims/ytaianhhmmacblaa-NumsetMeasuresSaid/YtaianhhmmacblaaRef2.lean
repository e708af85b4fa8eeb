import Derived.Test.YtaianhhmmacblaaNormal
import Derived.Test.YtaianhhmmacblaaRelOps
import Derived.Test.YtaianhhmmacblaaMath0
import Derived.Test.YtaianhhmmacblaaLeaf
/-
  The reference's fracs.
-/
namespace Go.Proofs.Ytaianhhmmacblaa
open Go.RowKit

set_option maxRecDepth 100000 in
set_option maxHeartbeats 2000000 in
theorem fracsR_any (w : World) (v : Value) (d : Nm) (h : NmAt w v d) (hl : d.fracs.length ≤ 100000000) :
    Calls Try.prog 60 #[v] w fun e w' => ∃ r, e = .returned r ∧ SpAt w' r (fracsR d.fracs) ∧ Ext w w' := by
  obtain ⟨A', c', A, c, rfl, h2, h1⟩ := h
  obtain ⟨l', l⟩ := d
  simp only at hl h1 h2
  go_enter Try.func60, Try.ntmps60
  go_wp2
  go_loopw [3, 11] (fun v i wr => ∃ k : Nat, k ≤ l.length ∧ i = .int .i64 k ∧ Own wr (w.heap.size + 1) v ((l.take k).foldl fstep []) ∧ Ext w wr ∧ w.heap.size + 1 ≤ wr.heap.size) (fun _ i _ => l.length - (intOf i).toNat)
  case atStart => exact ⟨0, Nat.zero_le _, rfl, Own.nil _ _, (Ext.refl _).alloc _, by simp⟩
  case round =>
    obtain ⟨k, hk, rfl, hown, hE, hsz⟩ := hrel
    by_cases hlt : k < l.length
    · obtain ⟨b, off, rfl, hbB, hc0, hc1⟩ := h1.at_ hlt
      have hd0 := (hE.cell ⟨b, off + k * 2, none⟩ hbB).trans hc0
      have hd1 := (hE.cell ⟨b, off + k * 2 + 1, none⟩ hbB).trans hc1
      have hstep := fstep_take l k hlt
      have hlen : ((l.take k).foldl fstep []).length ≤ k := Nat.le_trans (fstep_bd _).2 (by rw [List.length_take]; omega)
      clear hc0 hc1
      generalize l[k] = s at *
      generalize (l.take k).foldl fstep [] = acc at *
      obtain ⟨lo, hi⟩ := s
      simp only at hd0 hd1
      have Hstep := Lib.hid hstep
      clear hstep
      obtain ⟨x0, hx0⟩ : ∃ x0, x0 = max lo (-1000000000000000) := ⟨_, rfl⟩
      obtain ⟨y0, hy0⟩ : ∃ y0, y0 = min hi 1000000000000000 := ⟨_, rfl⟩
      have hmx := fun ts t w => run_max_i64 Try.prog ts t lo (-1000000000000000) w
      have hmn := fun ts t w => run_min_i64 Try.prog ts t hi 1000000000000000 w
      rw [← hx0] at hmx
      rw [← hy0] at hmn
      have hxl : -1000000000000000 ≤ x0 := by omega
      have hyl : y0 ≤ 1000000000000000 := by omega
      have hof := fun x1 y1 => fstep_of (x1 := x1) (y1 := y1) acc hx0 hy0
      have Hof := Lib.hid hof
      clear hof hx0 hy0
      by_cases hxy : y0 < x0
      · have hsame : fstep acc (lo, hi) = acc := (Hof.out _ _ rfl rfl).2 (by have := upF_le x0; have := dnF_le y0; omega)
        have Hs := Lib.hid hsame
        clear hsame
        go_wp2
        go_quiet (fail)
        go_wp2
        go_roundw
        case rel => exact ⟨k + 1, by omega, by go_num, by rw [Hstep.out, Hs.out]; exact (hown.alloc _), (hE.alloc _).drewN _, by simp; omega⟩
        case measure => simp [intOf]; omega
      · have hx2 : x0 ≤ y0 := by omega
        clear hxy
        have hex1 : ∃ ba : Bool, decide (x0 % 10000 = 0) = ba := ⟨_, rfl⟩
        have hex2 : ∃ bb : Bool, decide (y0 % 10000 = 0) = bb := ⟨_, rfl⟩
        obtain ⟨ba, da⟩ := hex1
        obtain ⟨bb, db⟩ := hex2
        cases ba
        all_goals cases bb
        · have Hc := Lib.hid (Hof.out _ _ (upF_false (by simpa using da)) (dnF_false (by simpa using db)))
          by_cases hok : x0 ≤ y0
          · have Hs := Lib.hid (Hc.out.1 hok)
            go_wp2
            go_quiet (fail)
            go_wp2_with (first | (go_at_call 72; refine (wholeR_any _ _).mono ?_; rintro e w' ⟨rfl, rfl⟩) | (go_at_call 80; refine (rank_any _ _ (by omega) (by omega)).mono ?_; rintro e w' ⟨rfl, rfl⟩) | (at_builtin; refine app_one rfl _ _ rfl (w.heap.size + 1) _ _ _ _ _ rfl ((hown.alloc _).alloc _) rfl (cell_two0 _ _ _ _) (cell_two1 _ _ _ _) (by omega) (by simp; omega) ?_))
            intro v' w1 hown1 hB1 _
            have hsz1 := hB1.size
            simp at hsz1
            have hE1 : Ext w w1 := Below.trans (B := w.heap.size) (((hE.alloc _).alloc _).drewN _) (hB1.mono (by omega))
            clear hB1
            go_wp2
            go_roundw
            case rel => exact ⟨k + 1, by omega, by go_num, by rw [Hstep.out, Hs.out]; exact hown1, hE1, by omega⟩
            case measure => simp [intOf]; omega
          · exact absurd hx2 hok
        · have Hc := Lib.hid (Hof.out _ _ (upF_false (by simpa using da)) (dnF_true (by simpa using db)))
          by_cases hok : x0 ≤ y0 - 1
          · have Hs := Lib.hid (Hc.out.1 hok)
            go_wp2
            go_quiet (fail)
            go_wp2_with (first | (go_at_call 72; refine (wholeR_any _ _).mono ?_; rintro e w' ⟨rfl, rfl⟩) | (go_at_call 80; refine (rank_any _ _ (by omega) (by omega)).mono ?_; rintro e w' ⟨rfl, rfl⟩) | (at_builtin; refine app_one rfl _ _ rfl (w.heap.size + 1) _ _ _ _ _ rfl ((hown.alloc _).alloc _) rfl (cell_two0 _ _ _ _) (cell_two1 _ _ _ _) (by omega) (by simp; omega) ?_))
            intro v' w1 hown1 hB1 _
            have hsz1 := hB1.size
            simp at hsz1
            have hE1 : Ext w w1 := Below.trans (B := w.heap.size) (((hE.alloc _).alloc _).drewN _) (hB1.mono (by omega))
            clear hB1
            go_wp2
            go_roundw
            case rel => exact ⟨k + 1, by omega, by go_num, by rw [Hstep.out, Hs.out]; exact hown1, hE1, by omega⟩
            case measure => simp [intOf]; omega
          · have Hs := Lib.hid (Hc.out.2 (by omega))
            go_wp2
            go_quiet (fail)
            go_wp2_with (go_at_call 72; refine (wholeR_any _ _).mono ?_; rintro e w' ⟨rfl, rfl⟩)
            go_roundw
            case rel => exact ⟨k + 1, by omega, by go_num, by rw [Hstep.out, Hs.out]; exact hown.alloc _, (hE.alloc _).drewN _, by simp; omega⟩
            case measure => simp [intOf]; omega
        · have Hc := Lib.hid (Hof.out _ _ (upF_true (by simpa using da)) (dnF_false (by simpa using db)))
          by_cases hok : x0 + 1 ≤ y0
          · have Hs := Lib.hid (Hc.out.1 hok)
            go_wp2
            go_quiet (fail)
            go_wp2_with (first | (go_at_call 72; refine (wholeR_any _ _).mono ?_; rintro e w' ⟨rfl, rfl⟩) | (go_at_call 80; refine (rank_any _ _ (by omega) (by omega)).mono ?_; rintro e w' ⟨rfl, rfl⟩) | (at_builtin; refine app_one rfl _ _ rfl (w.heap.size + 1) _ _ _ _ _ rfl ((hown.alloc _).alloc _) rfl (cell_two0 _ _ _ _) (cell_two1 _ _ _ _) (by omega) (by simp; omega) ?_))
            intro v' w1 hown1 hB1 _
            have hsz1 := hB1.size
            simp at hsz1
            have hE1 : Ext w w1 := Below.trans (B := w.heap.size) (((hE.alloc _).alloc _).drewN _) (hB1.mono (by omega))
            clear hB1
            go_wp2
            go_roundw
            case rel => exact ⟨k + 1, by omega, by go_num, by rw [Hstep.out, Hs.out]; exact hown1, hE1, by omega⟩
            case measure => simp [intOf]; omega
          · have Hs := Lib.hid (Hc.out.2 (by omega))
            go_wp2
            go_quiet (fail)
            go_wp2_with (go_at_call 72; refine (wholeR_any _ _).mono ?_; rintro e w' ⟨rfl, rfl⟩)
            go_roundw
            case rel => exact ⟨k + 1, by omega, by go_num, by rw [Hstep.out, Hs.out]; exact hown.alloc _, (hE.alloc _).drewN _, by simp; omega⟩
            case measure => simp [intOf]; omega
        · have Hc := Lib.hid (Hof.out _ _ (upF_true (by simpa using da)) (dnF_true (by simpa using db)))
          by_cases hok : x0 + 1 ≤ y0 - 1
          · have Hs := Lib.hid (Hc.out.1 hok)
            go_wp2
            go_quiet (fail)
            go_wp2_with (first | (go_at_call 72; refine (wholeR_any _ _).mono ?_; rintro e w' ⟨rfl, rfl⟩) | (go_at_call 80; refine (rank_any _ _ (by omega) (by omega)).mono ?_; rintro e w' ⟨rfl, rfl⟩) | (at_builtin; refine app_one rfl _ _ rfl (w.heap.size + 1) _ _ _ _ _ rfl ((hown.alloc _).alloc _) rfl (cell_two0 _ _ _ _) (cell_two1 _ _ _ _) (by omega) (by simp; omega) ?_))
            intro v' w1 hown1 hB1 _
            have hsz1 := hB1.size
            simp at hsz1
            have hE1 : Ext w w1 := Below.trans (B := w.heap.size) (((hE.alloc _).alloc _).drewN _) (hB1.mono (by omega))
            clear hB1
            go_wp2
            go_roundw
            case rel => exact ⟨k + 1, by omega, by go_num, by rw [Hstep.out, Hs.out]; exact hown1, hE1, by omega⟩
            case measure => simp [intOf]; omega
          · have Hs := Lib.hid (Hc.out.2 (by omega))
            go_wp2
            go_quiet (fail)
            go_wp2_with (go_at_call 72; refine (wholeR_any _ _).mono ?_; rintro e w' ⟨rfl, rfl⟩)
            go_roundw
            case rel => exact ⟨k + 1, by omega, by go_num, by rw [Hstep.out, Hs.out]; exact hown.alloc _, (hE.alloc _).drewN _, by simp; omega⟩
            case measure => simp [intOf]; omega
    · have hkl : k = l.length := by omega
      subst hkl
      rw [List.take_of_length_le (Nat.le_refl _)] at hown
      obtain ⟨A2, c2, rfl⟩ := hown.form
      have hat := hown.at_.2
      have hbd := (fstep_bd l).1.bdr
      have hlen : (l.foldl fstep []).length ≤ 100000000 := Nat.le_trans (fstep_bd l).2 hl
      obtain ⟨lc, hlc⟩ : ∃ lc, lc = l.foldl fstep [] := ⟨_, rfl⟩
      have Hfin : Hid (fracsR l = normalL lc) := Lib.hid (by unfold fracsR; rw [hlc])
      rw [← hlc] at hat hbd hlen hown ⊢
      clear hlc
      go_wp2_with (go_at_call 79; refine (normal_any _ A2 c2 lc hat hlen hbd).mono ?_; rintro e w2 ⟨r, rfl, hr, hE2⟩)
      obtain ⟨A3, c3, rfl⟩ := hr.form
      go_ret
      refine ⟨_, rfl, ?_, hE.trans hE2⟩
      rw [Hfin.out]
      exact ⟨A3, c3, rfl, hr.at_.2⟩
end Go.Proofs.Ytaianhhmmacblaa
