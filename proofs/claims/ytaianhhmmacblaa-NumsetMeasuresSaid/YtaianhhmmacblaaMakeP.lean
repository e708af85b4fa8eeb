import Derived.Test.YtaianhhmmacblaaRef7
import Derived.Test.YtaianhhmmacblaaJoined
import Derived.Test.YtaianhhmmacblaaSets
/-
  The program's Make.
-/
namespace Go.Proofs.Ytaianhhmmacblaa
open Go.RowKit

set_option maxRecDepth 100000 in
set_option maxHeartbeats 2000000 in
theorem makeP_any (w : World) (v0 : Value) (d : Nm) (h0 : NmAt w v0 d) (hs : Sz 1000000 d) (hr : InR d.fracs) :
    Calls Try.prog 33 #[v0] w fun e w' => ∃ r, e = .returned r ∧ NmAt w' r (makeR d) ∧ Ext w w' := by
  have g0 := h0
  obtain ⟨A0, c0, B0, e0, rfl, x0, y0⟩ := g0
  have b0 : BlkN ((w.alloc (.cells #[.slice A0 d.ints.length c0, .slice B0 d.fracs.length e0] 24)).alloc (.cells #[.slice none 0 0, .slice none 0 0] 24)) w.heap.size (.slice A0 d.ints.length c0) (.slice B0 d.fracs.length e0) := by simpa using (BlkN.new w (.slice A0 d.ints.length c0) (.slice B0 d.fracs.length e0)).alloc _
  have br : BlkN ((w.alloc (.cells #[.slice A0 d.ints.length c0, .slice B0 d.fracs.length e0] 24)).alloc (.cells #[.slice none 0 0, .slice none 0 0] 24)) (w.heap.size + 1) (.slice none 0 0) (.slice none 0 0) := by simpa using BlkN.new (w.alloc (.cells #[.slice A0 d.ints.length c0, .slice B0 d.fracs.length e0] 24)) (.slice none 0 0) (.slice none 0 0)
  have hEW : Ext w ((w.alloc (.cells #[.slice A0 d.ints.length c0, .slice B0 d.fracs.length e0] 24)).alloc (.cells #[.slice none 0 0, .slice none 0 0] 24)) := ((Ext.refl w).alloc _).alloc _
  have k0 := h0.ext hEW
  have f0a := fun w' (h : Ext ((w.alloc (.cells #[.slice A0 d.ints.length c0, .slice B0 d.fracs.length e0] 24)).alloc (.cells #[.slice none 0 0, .slice none 0 0] 24)) w') => (b0.ext h).cell0
  have f0b := fun w' (h : Ext ((w.alloc (.cells #[.slice A0 d.ints.length c0, .slice B0 d.fracs.length e0] 24)).alloc (.cells #[.slice none 0 0, .slice none 0 0] 24)) w') => (b0.ext h).cell1
  have K0 := Lib.hid k0
  have si0 : SpAt ((w.alloc (.cells #[.slice A0 d.ints.length c0, .slice B0 d.fracs.length e0] 24)).alloc (.cells #[.slice none 0 0, .slice none 0 0] 24)) (.slice A0 d.ints.length c0) d.ints := ⟨A0, c0, rfl, x0.ext hEW⟩
  have sf0 : SpAt ((w.alloc (.cells #[.slice A0 d.ints.length c0, .slice B0 d.fracs.length e0] 24)).alloc (.cells #[.slice none 0 0, .slice none 0 0] 24)) (.slice B0 d.fracs.length e0) d.fracs := ⟨B0, e0, rfl, y0.ext hEW⟩
  have SI0 := Lib.hid si0
  have SF0 := Lib.hid sf0
  clear si0 sf0
  have BR := Lib.hid br
  have HE := Lib.hid hEW
  clear hEW b0 h0 k0 x0 y0 br
  go_enter Try.func33, Try.ntmps33
  go_wp2
  obtain ⟨_, _, ei, hAi⟩ := SI0.out
  injection ei with ei1 ei2 ei3
  subst ei1 ei3
  obtain ⟨_, _, ef, hAf⟩ := SF0.out
  injection ef with ef1 ef2 ef3
  subst ef1 ef3
  clear ei2 ef2
  have hWs : ((w.alloc (.cells #[.slice A0 d.ints.length c0, .slice B0 d.fracs.length e0] 24)).alloc (.cells #[.slice none 0 0, .slice none 0 0] 24)).heap.size = w.heap.size + 2 := by simp
  generalize hW : (w.alloc (.cells #[.slice A0 d.ints.length c0, .slice B0 d.fracs.length e0] 24)).alloc (.cells #[.slice none 0 0, .slice none 0 0] 24) = W at *
  clear hW SI0 SF0 K0
  go_loopw [3, 6, 12] (fun v n i wr => ∃ k : Nat, k ≤ d.ints.length ∧ i = .int .i64 k ∧ Own wr (w.heap.size + 2) v ((d.ints.take k).foldl istep []) ∧ Ext W wr) (fun _ _ i _ => d.ints.length - (intOf i).toNat)
  case atStart => exact ⟨0, Nat.zero_le _, rfl, Own.nil _ _, Ext.refl _⟩
  case round =>
    obtain ⟨k, hk, rfl, hown, hE⟩ := hrel
    have hsz := hE.size
    rw [hWs] at hsz
    have hsI := hs.1
    by_cases hlt : k < d.ints.length
    · have hstep := istep_take d.ints k hlt
      obtain ⟨b, off, rfl, hbB, hc0, hc1⟩ := hAi.at_ hlt
      have hd0 := (hE.cell ⟨b, off + k * 2, none⟩ hbB).trans hc0
      have hd1 := (hE.cell ⟨b, off + k * 2 + 1, none⟩ hbB).trans hc1
      have hlen := istep_len d.ints k
      clear hc0 hc1 hAi
      generalize d.ints[k] = s at *
      generalize (d.ints.take k).foldl istep [] = acc at *
      have Hstep := Lib.hid hstep
      clear hstep
      obtain ⟨lo, hi⟩ := s
      simp only at hd0 hd1
      have hmx := fun ts t w => run_max_i64 Try.prog ts t lo (-100000000000) w
      have hmn := fun ts t w => run_min_i64 Try.prog ts t hi 100000000000 w
      have hof : okS (clampI (lo, hi)) = decide (max lo (-100000000000) ≤ min hi 100000000000) := rfl
      have hof2 : istep acc (lo, hi) = if okS (clampI (lo, hi)) then acc ++ [(max lo (-100000000000), min hi 100000000000)] else acc := rfl
      generalize max lo (-100000000000) = x0 at *
      generalize min hi 100000000000 = y0 at *
      rw [hof] at hof2
      clear hof
      by_cases hc : x0 ≤ y0
      · rw [if_pos (by simpa using hc)] at hof2
        have Hs := Lib.hid hof2
        clear hof2
        go_wp2_with (at_builtin; refine app_one rfl _ _ rfl (w.heap.size + 2) _ _ _ _ _ rfl ((hown.alloc _).alloc _) rfl (cell_two0 _ _ _ _) (cell_two1 _ _ _ _) (by omega) (by simp; omega) ?_)
        intro v' w1 hown1 hB1 _
        have hE1 : Ext W w1 := Below.trans ((hE.alloc _).alloc _) (hB1.mono (by omega))
        clear hB1
        go_wp2
        go_roundw
        case rel => exact ⟨k + 1, by omega, by go_num, by rw [Hstep.out, Hs.out]; exact hown1, hE1⟩
        case measure => simp [intOf]; omega
      · rw [if_neg (by simpa using hc)] at hof2
        have Hs := Lib.hid hof2
        clear hof2
        go_wp2
        go_roundw
        case rel => exact ⟨k + 1, by omega, by go_num, by rw [Hstep.out, Hs.out]; exact hown.alloc _, hE.alloc _⟩
        case measure => simp [intOf]; omega
    · have hkl : k = d.ints.length := by omega
      subst hkl
      rw [List.take_of_length_le (Nat.le_refl _)] at hown
      obtain ⟨Ai, ci, rfl⟩ := hown.form
      have hlenI := istep_len d.ints d.ints.length
      rw [List.take_of_length_le (Nat.le_refl _)] at hlenI
      have hbdI := istep_bdd d.ints
      obtain ⟨li, hli⟩ : ∃ li, li = d.ints.foldl istep [] := ⟨_, rfl⟩
      rw [← hli] at hown hlenI hbdI ⊢
      have HLI := Lib.hid hli
      have HOI := Lib.hid hown
      clear hli hown hAi hlt
      obtain ⟨wo, rfl⟩ : ∃ wo : World, wo = wr := ⟨_, rfl⟩
      have hq0 := f0a _ hE
      have hq1 := f0b _ hE
      go_wp2
      go_loopw [4, 8, 36] (fun v n i wr => ∃ k : Nat, k ≤ d.fracs.length ∧ i = .int .i64 k ∧ Own wr wo.heap.size v ((d.fracs.take k).foldl pstep []) ∧ Ext wo wr) (fun _ _ i _ => d.fracs.length - (intOf i).toNat)
      case atStart => exact ⟨0, Nat.zero_le _, rfl, Own.nil _ _, Ext.refl _⟩
      case round =>
        obtain ⟨k, hk, rfl, hown, hE2⟩ := hrel
        have hsz2 := hE2.size
        have hsF := hs.2
        by_cases hlt : k < d.fracs.length
        · have hstep := pstep_take d.fracs k hlt
          obtain ⟨b, off, rfl, hbB, hc0, hc1⟩ := hAf.at_ hlt
          have hd0 := ((hE.trans hE2).cell ⟨b, off + k * 2, none⟩ hbB).trans hc0
          have hd1 := ((hE.trans hE2).cell ⟨b, off + k * 2 + 1, none⟩ hbB).trans hc1
          have hlen := pstep_len d.fracs k
          have hrk := hr _ (List.getElem_mem hlt)
          clear hc0 hc1 hAf
          generalize d.fracs[k] = s at *
          generalize (d.fracs.take k).foldl pstep [] = acc at *
          have Hstep := Lib.hid hstep
          clear hstep
          obtain ⟨lo, hi⟩ := s
          simp only at hd0 hd1 hrk
          obtain ⟨r1, r2, r3, r4⟩ := hrk
          have hmx := fun ts t w => run_max_i64 Try.prog ts t lo (-1000000000000000) w
          have hmn := fun ts t w => run_min_i64 Try.prog ts t hi 1000000000000000 w
          have Hof : Hid (∀ u v, upF (max lo (-1000000000000000)) = u → dnF (min hi 1000000000000000) = v → (u ≤ v → pstep acc (lo, hi) = acc ++ [(u, v)]) ∧ (v < u → pstep acc (lo, hi) = acc)) := Lib.hid (fun u v h1 h2 => pstep_of acc lo hi u v h1 h2)
          have hx1 : -1000000000000000 ≤ max lo (-1000000000000000) := by omega
          have hx2 : max lo (-1000000000000000) ≤ 9223372036854775807 := by omega
          have hy1 : -9223372036854775808 ≤ min hi 1000000000000000 := by omega
          have hy2 : min hi 1000000000000000 ≤ 1000000000000000 := by omega
          generalize max lo (-1000000000000000) = x0 at *
          generalize min hi 1000000000000000 = y0 at *
          have hxz := tmod_zero x0 10000
          have hyz := tmod_zero y0 10000
          by_cases da : x0 % 10000 = 0
          all_goals by_cases db : y0 % 10000 = 0
          all_goals first
            | (have da' := hxz.2 da; have hx3 : x0 + 1 ≤ 9223372036854775807 := by omega)
            | have da' : ¬ x0.tmod 10000 = 0 := fun h => da (hxz.1 h)
          all_goals first
            | (have db' := hyz.2 db; have hy3 : -9223372036854775808 ≤ y0 - 1 := by omega)
            | have db' : ¬ y0.tmod 10000 = 0 := fun h => db (hyz.1 h)
          all_goals clear hxz hyz
          · have Hc := Lib.hid (Hof.out (x0 + 1) (y0 - 1) (upF_true da) (dnF_true db))
            by_cases hok : x0 + 1 ≤ y0 - 1
            · have Hs := Lib.hid (Hc.out.1 hok)
              go_wp2_with (at_builtin; refine app_one rfl _ _ rfl wo.heap.size _ _ _ _ _ rfl ((hown.alloc _).alloc _) rfl (cell_two0 _ _ _ _) (cell_two1 _ _ _ _) (by omega) (by simp; omega) ?_)
              intro v' w1 hown1 hB1 _
              have hE3 : Ext wo w1 := Below.trans ((hE2.alloc _).alloc _) hB1
              clear hB1
              go_wp2
              go_roundw
              case rel => exact ⟨k + 1, by omega, by go_num, by rw [Hstep.out, Hs.out]; exact hown1, hE3⟩
              case measure => simp [intOf]; omega
            · have Hs := Lib.hid (Hc.out.2 (by omega))
              go_wp2
              go_roundw
              case rel => exact ⟨k + 1, by omega, by go_num, by rw [Hstep.out, Hs.out]; exact hown.alloc _, hE2.alloc _⟩
              case measure => simp [intOf]; omega
          · have Hc := Lib.hid (Hof.out (x0 + 1) (y0) (upF_true da) (dnF_false db))
            by_cases hok : x0 + 1 ≤ y0
            · have Hs := Lib.hid (Hc.out.1 hok)
              go_wp2_with (at_builtin; refine app_one rfl _ _ rfl wo.heap.size _ _ _ _ _ rfl ((hown.alloc _).alloc _) rfl (cell_two0 _ _ _ _) (cell_two1 _ _ _ _) (by omega) (by simp; omega) ?_)
              intro v' w1 hown1 hB1 _
              have hE3 : Ext wo w1 := Below.trans ((hE2.alloc _).alloc _) hB1
              clear hB1
              go_wp2
              go_roundw
              case rel => exact ⟨k + 1, by omega, by go_num, by rw [Hstep.out, Hs.out]; exact hown1, hE3⟩
              case measure => simp [intOf]; omega
            · have Hs := Lib.hid (Hc.out.2 (by omega))
              go_wp2
              go_roundw
              case rel => exact ⟨k + 1, by omega, by go_num, by rw [Hstep.out, Hs.out]; exact hown.alloc _, hE2.alloc _⟩
              case measure => simp [intOf]; omega
          · have Hc := Lib.hid (Hof.out (x0) (y0 - 1) (upF_false da) (dnF_true db))
            by_cases hok : x0 ≤ y0 - 1
            · have Hs := Lib.hid (Hc.out.1 hok)
              go_wp2_with (at_builtin; refine app_one rfl _ _ rfl wo.heap.size _ _ _ _ _ rfl ((hown.alloc _).alloc _) rfl (cell_two0 _ _ _ _) (cell_two1 _ _ _ _) (by omega) (by simp; omega) ?_)
              intro v' w1 hown1 hB1 _
              have hE3 : Ext wo w1 := Below.trans ((hE2.alloc _).alloc _) hB1
              clear hB1
              go_wp2
              go_roundw
              case rel => exact ⟨k + 1, by omega, by go_num, by rw [Hstep.out, Hs.out]; exact hown1, hE3⟩
              case measure => simp [intOf]; omega
            · have Hs := Lib.hid (Hc.out.2 (by omega))
              go_wp2
              go_roundw
              case rel => exact ⟨k + 1, by omega, by go_num, by rw [Hstep.out, Hs.out]; exact hown.alloc _, hE2.alloc _⟩
              case measure => simp [intOf]; omega
          · have Hc := Lib.hid (Hof.out (x0) (y0) (upF_false da) (dnF_false db))
            by_cases hok : x0 ≤ y0
            · have Hs := Lib.hid (Hc.out.1 hok)
              go_wp2_with (at_builtin; refine app_one rfl _ _ rfl wo.heap.size _ _ _ _ _ rfl ((hown.alloc _).alloc _) rfl (cell_two0 _ _ _ _) (cell_two1 _ _ _ _) (by omega) (by simp; omega) ?_)
              intro v' w1 hown1 hB1 _
              have hE3 : Ext wo w1 := Below.trans ((hE2.alloc _).alloc _) hB1
              clear hB1
              go_wp2
              go_roundw
              case rel => exact ⟨k + 1, by omega, by go_num, by rw [Hstep.out, Hs.out]; exact hown1, hE3⟩
              case measure => simp [intOf]; omega
            · have Hs := Lib.hid (Hc.out.2 (by omega))
              go_wp2
              go_roundw
              case rel => exact ⟨k + 1, by omega, by go_num, by rw [Hstep.out, Hs.out]; exact hown.alloc _, hE2.alloc _⟩
              case measure => simp [intOf]; omega
        · have hkl : k = d.fracs.length := by omega
          subst hkl
          rw [List.take_of_length_le (Nat.le_refl _)] at hown
          obtain ⟨Af, cf, rfl⟩ := hown.form
          have hlenF := pstep_len d.fracs d.fracs.length
          rw [List.take_of_length_le (Nat.le_refl _)] at hlenF
          have hbdF := pstep_bdd d.fracs
          obtain ⟨lf, hlf⟩ : ∃ lf, lf = d.fracs.foldl pstep [] := ⟨_, rfl⟩
          rw [← hlf] at hown hlenF hbdF ⊢
          have HLF := Lib.hid hlf
          have HOF := Lib.hid hown
          clear hlf hown hAf hlt f0a f0b hq0 hq1
          go_wp2_with fail
          refine (joined_whole _ _ li ⟨Ai, ci, rfl, (HOI.out.ext hE2).at_.2⟩ (by omega) hbdI).mono ?_
          rintro e w1 ⟨r1, rfl, ⟨l1, hp1, hs1, hr1⟩, hE3⟩
          have HR1 := Lib.hid hr1
          have HJ1 : Hid (joinL (fun u => u + 1) l1 = intsR d.ints) := Lib.hid (join_whole d.ints l1 (by rw [← HLI.out]; exact hp1) hs1)
          clear hr1 hp1 hs1
          go_wp2_with fail
          refine (joined_after _ _ lf ⟨Af, cf, rfl, (HOF.out.ext hE3).at_.2⟩ (by omega) hbdF).mono ?_
          rintro e w2 ⟨r2, rfl, ⟨l2, hp2, hs2, hr2⟩, hE4⟩
          have hr1 := HR1.out.ext hE4
          rw [HJ1.out] at hr1
          rw [join_after d.fracs l2 (by rw [← HLF.out]; exact hp2) hs2] at hr2
          have hE9 := ((hE.trans hE2).trans hE3).trans hE4
          have hb3 := BR.out.ext hE9
          obtain ⟨Ar, cr, rfl, hr1⟩ := hr1
          obtain ⟨Ar', cr', rfl, hr2⟩ := hr2
          have hfin := nm_store (d := makeR d) (c := cr) (c' := cr') hb3 hr1 hr2 (HE.out.trans hE9) (by omega)
          have z0 := hb3.cell0
          have z1 := hb3.cell1
          have z2 := hb3.frozen0
          have z3 := fun u => (hb3.set0 u).frozen0 1
          have z4 := fun u => (hb3.set0 u).cell1
          obtain ⟨n1, n2, n3, n4⟩ := hfin
          have e1 : (makeR d).ints = intsR d.ints := rfl
          have e2 : (makeR d).fracs = (fracsR d.fracs).map unrankS := rfl
          simp only [e1, e2] at n1 n2 n3 n4
          clear hr1 hr2 hE9 hb3 HR1 HJ1 hp2 hs2 e1 e2
          generalize (intsR d.ints).length = len1 at n1 n2 n3 n4 ⊢
          generalize ((fracsR d.fracs).map unrankS).length = len2 at n1 n2 n3 n4 ⊢
          have N1 := Lib.hid n1
          have N2 := Lib.hid n2
          clear n1 n2
          go_wp2
          (try apply_assumption)
          (try go_wp2)
          exact bodyPost_ret (v := .agg #[.slice Ar len1 cr, .slice Ar' len2 cr']) (by simp [results, Try.results33, go_sem, n3, n4]) rfl ⟨_, rfl, N1.out, N2.out⟩

end Go.Proofs.Ytaianhhmmacblaa
