import Derived.Test.YtaianhhmmacblaaOwn
import Derived.Test.YtaianhhmmacblaaMath0
/-
  The reference's normal: the maximal spans of a union of spans.
-/
namespace Go.Proofs.Ytaianhhmmacblaa
open Go.RowKit

set_option maxRecDepth 100000 in
set_option maxHeartbeats 2000000 in
theorem normal_any (w : World) (A : Option Addr) (c : Nat) (l : List Sp) (hA : SlAt w w.heap.size A l) (hl : l.length ≤ 100000000) (hb : Bdr l) :
    Calls Try.prog 79 #[.slice A l.length c] w fun e w' => ∃ v, e = .returned v ∧ Own w' w.heap.size v (normalL l) ∧ Ext w w' := by
  go_enter Try.func79, Try.ntmps79
  go_wp2
  go_loopw [3, 12] (fun v i wr => ∃ k : Nat, k ≤ l.length ∧ i = .int .i64 k ∧ Own wr w.heap.size v (normalL (l.take k)) ∧ Ext w wr) (fun _ i _ => l.length - (intOf i).toNat)
  case atStart => exact ⟨0, Nat.zero_le _, rfl, Own.nil _ _, Ext.refl _⟩
  case round =>
    obtain ⟨k, hk, rfl, hown, hE⟩ := hrel
    have hfacts := normalL_facts (l.take k) (hb.take k)
    have hlen : (normalL (l.take k)).length ≤ k := Nat.le_trans hfacts.2 (by rw [List.length_take]; omega)
    have hbo := hfacts.1
    clear hfacts
    by_cases hlt : k < l.length
    · have hs := hb.get hlt
      have hstep := normalL_take l k hlt
      obtain ⟨b, off, rfl, hbB, hc0, hc1⟩ := hA.at_ hlt
      have hd0 := (hE.cell ⟨b, off + k * 2, none⟩ hbB).trans hc0
      have hd1 := (hE.cell ⟨b, off + k * 2 + 1, none⟩ hbB).trans hc1
      clear hc0 hc1
      generalize l[k] = s at *
      generalize normalL (l.take k) = out at *
      have Hstep := Lib.hid hstep
      clear hstep
      obtain ⟨lo, hi⟩ := s
      have hs' := hs
      simp only at hd0 hd1 hs'
      obtain ⟨A', c', rfl⟩ := hown.form
      by_cases hle : hi < lo
      · have hres : nins out (lo, hi) = out := by unfold nins; rw [if_pos hle]
        have Hres := Lib.hid hres
        clear hres hs hs'
        go_wp2
        go_roundw
        case rel => exact ⟨k + 1, by omega, by go_num, by rw [Hstep.out, Hres.out]; exact hown.alloc _, hE.alloc _⟩
        case measure => simp [intOf]; omega
      · have hs := hs (by simp only; omega)
        obtain ⟨s1, s2, s3, s4⟩ := hs' (by omega)
        simp only at s1 s2 s3 s4
        clear hs'
        have hsz := hE.size
        have hout := hown.at_.2
        obtain ⟨wo, rfl⟩ : ∃ wo : World, wo = wr := ⟨_, rfl⟩
        go_wp2
        go_loopw [6, 7, 23] (fun nv dn i wi => ∃ (j : Nat) (nx : List Sp) (d : Bool) (slo shi : Int), j ≤ out.length ∧ i = .int .i64 j ∧ dn = .bool d ∧ Hid (nfold (out.take j) (lo, hi) = (nx, d, (slo, shi))) ∧
          Own wi (wo.heap.size + 1) nv nx ∧ Blk2 wi wo.heap.size (.int .i64 slo) (.int .i64 shi) ∧ Below wo.heap.size wo wi ∧ wo.heap.size + 1 ≤ wi.heap.size) (fun _ _ i _ => out.length - (intOf i).toNat)
        case atStart => exact ⟨0, [], false, lo, hi, Nat.zero_le _, rfl, rfl, rfl, Own.nil _ _, Blk2.new _ _ _, (Below.refl _ _).alloc (Nat.le_refl _) _, by simp⟩
        case round =>
          obtain ⟨j, nx, d, slo, shi, hj, rfl, rfl, Hst, hnx, hbk, hB, hsz1⟩ := hrel
          obtain ⟨hbn, ⟨t1, t2, t3, t4⟩, hnl⟩ := nfold_st out (lo, hi) hbo hs j Hst.out
          simp only at t1 t2 t3 t4
          have e0 := hbk.cell0
          have e1 := hbk.cell1
          have e0a := fun o => (hbk.alloc o).cell0
          have e1a := fun o => (hbk.alloc o).cell1
          have e2a := fun o i => (hbk.alloc o).frozen0 i
          have hlt0 : wo.heap.size < wr.heap.size := by omega
          by_cases hlj : j < out.length
          · have hx := hbo.get hlj
            have hst2 := nfold_take out (lo, hi) j hlj
            rw [Hst.out] at hst2
            have hout' := hout.below hB
            obtain ⟨b', off', rfl, hbB', hc0, hc1⟩ := hout'.at_ hlj
            generalize out[j] = x at *
            obtain ⟨x1, x2⟩ := x
            obtain ⟨u1, u2, u3, u4⟩ := hx
            simp only at hc0 hc1 u1 u2 u3 u4
            have Hst2 := Lib.hid hst2
            clear hst2
            have hsz2 := hB.size
            by_cases hA1 : x2 + 1 < slo
            · have hcase : nstep (nx, d, (slo, shi)) (x1, x2) = (nx ++ [(x1, x2)], d, (slo, shi)) := by unfold nstep; rw [if_pos hA1]
              have Hcase := Lib.hid hcase
              clear hcase
              go_wp2_with (at_builtin; refine app_one rfl _ _ rfl (wo.heap.size + 1) _ nx _ x1 x2 rfl ((hnx.alloc _).alloc _) rfl (cell_two0 _ _ _ _) (cell_two1 _ _ _ _) (by omega) (by simp; omega) ?_)
              intro v' w1 hown1 hB1 hg1
              have hsz3 := hB1.size
              simp at hsz3
              have hbk1 := ((hbk.alloc _).alloc _).below hB1 (by omega)
              have hB2 := ((hB.alloc (by omega) _).alloc (by simp; omega) _).trans (hB1.mono (Nat.le_succ _))
              clear hB1 e0 e1 e0a e1a e2a
              go_wp2
              go_roundw
              case rel => exact ⟨j + 1, nx ++ [(x1, x2)], d, slo, shi, by omega, by go_num, rfl, Hst2.out.trans Hcase.out, hown1, hbk1, hB2, by omega⟩
              case measure => simp [intOf]; omega
            · by_cases hA2 : shi + 1 < x1
              · cases d with
                | true =>
                  have hcase : nstep (nx, true, (slo, shi)) (x1, x2) = (nx ++ [(x1, x2)], true, (slo, shi)) := by unfold nstep; rw [if_neg hA1, if_pos hA2, if_pos rfl]
                  have Hcase := Lib.hid hcase
                  clear hcase
                  go_wp2_with (at_builtin; refine app_one rfl _ _ rfl (wo.heap.size + 1) _ nx _ x1 x2 rfl ((hnx.alloc _).alloc _) rfl (cell_two0 _ _ _ _) (cell_two1 _ _ _ _) (by omega) (by simp; omega) ?_)
                  intro v' w1 hown1 hB1 hg1
                  have hsz3 := hB1.size
                  simp at hsz3
                  have hbk1 := ((hbk.alloc _).alloc _).below hB1 (by omega)
                  have hB2 := ((hB.alloc (by omega) _).alloc (by simp; omega) _).trans (hB1.mono (Nat.le_succ _))
                  clear hB1 e0 e1 e0a e1a e2a
                  go_wp2
                  go_roundw
                  case rel => exact ⟨j + 1, nx ++ [(x1, x2)], true, slo, shi, by omega, by go_num, rfl, Hst2.out.trans Hcase.out, hown1, hbk1, hB2, by omega⟩
                  case measure => simp [intOf]; omega
                | false =>
                  have hcase : nstep (nx, false, (slo, shi)) (x1, x2) = (nx ++ [(slo, shi), (x1, x2)], true, (slo, shi)) := by
                    unfold nstep; rw [if_neg hA1, if_pos hA2, if_neg (by simp)]; simp
                  have Hcase := Lib.hid hcase
                  clear hcase
                  go_wp2_with (at_builtin; refine app_one rfl _ _ rfl (wo.heap.size + 1) _ nx _ slo shi rfl ((hnx.alloc _).alloc _) rfl (cell_two0 _ _ _ _) (cell_two1 _ _ _ _) (by omega) (by simp; omega) ?_)
                  intro v' w1 hown1 hB1 hg1
                  have hsz3 := hB1.size
                  simp at hsz3
                  have hbk1 := ((hbk.alloc _).alloc _).below hB1 (by omega)
                  have hB2 := ((hB.alloc (by omega) _).alloc (by simp; omega) _).trans (hB1.mono (Nat.le_succ _))
                  clear hB1 e0 e1 e0a e1a e2a
                  have hxb : Blk2 w1 wr.heap.size (.int .i64 x1) (.int .i64 x2) :=
                    (hg1 wr.heap.size (by first | omega | (simp; omega)) (fun e => by have := (hnx.lt _ e).2; omega)).trans ((Blk2.new wr _ _).alloc _)
                  have x0 := hxb.cell0
                  have x1' := hxb.cell1
                  go_wp2_with (at_builtin; refine app_one rfl _ _ rfl (wo.heap.size + 1) _ _ _ x1 x2 rfl (hown1.alloc _) rfl (cell_one0 _ _ _) (cell_one1 _ _ _) (by simp; omega) (by simp; omega) ?_)
                  intro v2 w2 hown2 hB3 _
                  have hsz4 := hB3.size
                  simp at hsz4
                  have hbk2 := (hbk1.alloc _).below hB3 (by omega)
                  have hB4 := (hB2.alloc (by omega) _).trans (hB3.mono (Nat.le_succ _))
                  clear hB3 x0 x1' hxb hown1 hbk1 hg1
                  go_wp2
                  go_roundw
                  case rel => exact ⟨j + 1, nx ++ [(slo, shi), (x1, x2)], true, slo, shi, by omega, by go_num, rfl, Hst2.out.trans Hcase.out, hown2, hbk2, hB4, by omega⟩
                  case measure => simp [intOf]; omega
              · have hcase : nstep (nx, d, (slo, shi)) (x1, x2) = (nx, d, (min slo x1, max shi x2)) := by unfold nstep; rw [if_neg hA1, if_neg hA2]
                have Hcase := Lib.hid hcase
                clear hcase
                have f1 := fun u o => ((hbk.set0 u).alloc o).frozen0 1
                have hown3 := fun u1 u2 o => ((hnx.setOther (p := ⟨wo.heap.size, 0, none⟩) (fun e => by have := (hnx.lt wo.heap.size e).1; omega) u1).setOther (p := ⟨wo.heap.size, 1, none⟩) (fun e => by have := (hnx.lt wo.heap.size e).1; omega) u2).alloc o
                have hbk3 := fun u1 u2 o => ((hbk.set0 u1).set1 u2).alloc o
                have hB3 := fun u1 u2 o => ((hB.setCell (p := ⟨wo.heap.size, 0, none⟩) (Nat.le_refl _) u1).setCell (p := ⟨wo.heap.size, 1, none⟩) (Nat.le_refl _) u2).alloc (by simp [World.setCell]; omega) o
                have Hmin : Hid ((slo ≤ x1 ∧ min slo x1 = slo ∨ x1 < slo ∧ min slo x1 = x1) ∧ (x2 ≤ shi ∧ max shi x2 = shi ∨ shi < x2 ∧ max shi x2 = x2)) := Lib.hid ⟨by omega, by omega⟩
                go_wp2
                all_goals
                  go_roundw
                  case rel =>
                    refine ⟨j + 1, nx, d, _, _, by omega, by go_num, rfl, (Hst2.out.trans Hcase.out).trans ?_, hown3 _ _ _, hbk3 _ _ _, hB3 _ _ _, by simp [World.setCell]; omega⟩
                    have hm := Hmin.out
                    have e1 : min slo x1 = slo ∨ min slo x1 = x1 := by omega
                    simp only [Prod.mk.injEq, true_and]
                    omega
                  case measure => simp [intOf]; omega
          · cases d with
            | true =>
              have hjo : j = out.length := by omega
              subst hjo
              have hres : nins out (lo, hi) = nx := by
                have h := Hst.out
                rw [List.take_of_length_le (Nat.le_refl _)] at h
                unfold nins
                rw [if_neg (by simp only; omega)]
                simp only [h, if_true]
              have Hres := Lib.hid hres
              clear hres
              have hE2 : Ext w wr := hE.trans hB
              go_wp2
              go_roundw
              case rel => exact ⟨k + 1, by omega, by go_num, by rw [Hstep.out, Hres.out]; exact hnx.mono (by omega), hE2⟩
              case measure => simp [intOf]; omega
            | false =>
              go_wp2_with (at_builtin; refine app_one rfl _ _ rfl (wo.heap.size + 1) _ nx _ slo shi rfl (hnx.alloc _) rfl (cell_one0 _ _ _) (cell_one1 _ _ _) (by omega) (by simp; omega) ?_)
              intro v' w1 hown1 hB1 _
              have hjo : j = out.length := by omega
              subst hjo
              have hres : nins out (lo, hi) = nx ++ [(slo, shi)] := by
                have h := Hst.out
                rw [List.take_of_length_le (Nat.le_refl _)] at h
                unfold nins
                rw [if_neg (by simp only; omega)]
                simp only [h, Bool.false_eq_true, if_false]
              have Hres := Lib.hid hres
              clear hres
              have hE2 : Ext w w1 := hE.trans ((hB.alloc (by omega) _).trans (hB1.mono (Nat.le_succ _)))
              clear hB1
              go_wp2
              go_roundw
              case rel => exact ⟨k + 1, by omega, by go_num, by rw [Hstep.out, Hres.out]; exact hown1.mono (by omega), hE2⟩
              case measure => simp [intOf]; omega
    · have hkl : k = l.length := by omega
      subst hkl
      rw [List.take_of_length_le (Nat.le_refl _)] at hown
      go_wp2
      go_ret
      exact ⟨_, rfl, hown, hE⟩
end Go.Proofs.Ytaianhhmmacblaa
