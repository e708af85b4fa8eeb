import Derived.Test.YtaianhhmmacblaaMinusP
/-
  The program's Count.
-/
namespace Go.Proofs.Ytaianhhmmacblaa
open Go.RowKit

set_option maxRecDepth 100000 in
set_option maxHeartbeats 1000000 in
theorem countP_any (w : World) (v0 : Value) (d : Nm) (h0 : NmAt w v0 d) (hs : Sz 900 d) (hr : InR d.fracs) :
    Calls Try.prog 24 #[v0] w fun e w' => e = .returned (.int .i64 (countP d)) ∧ Ext w w' := by
  have g0 := h0
  obtain ⟨A0, c0, B0, e0, rfl, x0, y0⟩ := g0
  have b0 : BlkN (w.alloc (.cells #[.slice A0 d.ints.length c0, .slice B0 d.fracs.length e0] 24)) w.heap.size (.slice A0 d.ints.length c0) (.slice B0 d.fracs.length e0) := by simpa using BlkN.new w (.slice A0 d.ints.length c0) (.slice B0 d.fracs.length e0)
  have hEW : Ext w (w.alloc (.cells #[.slice A0 d.ints.length c0, .slice B0 d.fracs.length e0] 24)) := (Ext.refl w).alloc _
  have k0 := h0.ext hEW
  have f0a := fun w' (h : Ext (w.alloc (.cells #[.slice A0 d.ints.length c0, .slice B0 d.fracs.length e0] 24)) w') => (b0.ext h).cell0
  have f0b := fun w' (h : Ext (w.alloc (.cells #[.slice A0 d.ints.length c0, .slice B0 d.fracs.length e0] 24)) w') => (b0.ext h).cell1
  have K0 := Lib.hid k0
  have si0 : SpAt (w.alloc (.cells #[.slice A0 d.ints.length c0, .slice B0 d.fracs.length e0] 24)) (.slice A0 d.ints.length c0) d.ints := ⟨A0, c0, rfl, x0.ext hEW⟩
  have sf0 : SpAt (w.alloc (.cells #[.slice A0 d.ints.length c0, .slice B0 d.fracs.length e0] 24)) (.slice B0 d.fracs.length e0) d.fracs := ⟨B0, e0, rfl, y0.ext hEW⟩
  have SI0 := Lib.hid si0
  have SF0 := Lib.hid sf0
  clear si0 sf0
  have HE := Lib.hid hEW
  clear hEW b0 h0 k0 x0 y0
  go_enter Try.func24, Try.ntmps24
  go_wp2_with fail
  refine (makeP_any _ _ d K0.out (hs.mono (by omega)) hr).mono ?_
  rintro e w1 ⟨r, rfl, ⟨A8, c8, B8, e8, rfl, i8, f8⟩, hE1⟩
  have szm := makeR_sz hs
  have bdi := makeR_bddI d
  have bdf := makeR_bddF d
  have HD : Hid (countP d = csum cF (makeR d).fracs (csum cI (makeR d).ints 0)) := Lib.hid rfl
  have HE1 := Lib.hid (HE.out.trans hE1)
  clear hE1 f0a f0b SI0 SF0 K0 HE
  generalize makeR d = m at *
  obtain ⟨l, l'⟩ := m
  simp only at *
  obtain ⟨sz1, sz2⟩ := szm
  simp only at sz1 sz2
  have b3 := BlkN.new w1 (.slice A8 l.length c8) (.slice B8 l'.length e8)
  have hi8 := i8.ext ((Ext.refl w1).alloc (.cells #[.slice A8 l.length c8, .slice B8 l'.length e8] 24))
  have hf8 := f8.ext ((Ext.refl w1).alloc (.cells #[.slice A8 l.length c8, .slice B8 l'.length e8] 24))
  have hEW := (HE1.out).alloc (.cells #[.slice A8 l.length c8, .slice B8 l'.length e8] 24)
  go_wp2_with fail
  generalize w1.alloc (.cells #[.slice A8 l.length c8, .slice B8 l'.length e8] 24) = W at *
  clear i8 f8
  have HB3 := Lib.hid b3
  have HEW := Lib.hid hEW
  clear b3 hEW HE1
  go_loopw [4, 6, 14] (fun vn _ i wr => ∃ (k : Nat) (x : Int), k ≤ l.length ∧ i = .int .i64 k ∧ vn = .int .i64 x ∧ Hid (csum cI (l.take k) 0 = x) ∧ Ext W wr) (fun _ _ i _ => l.length - (intOf i).toNat)
  case atStart => exact ⟨0, 0, Nat.zero_le _, rfl, rfl, rfl, Ext.refl _⟩
  case round =>
    obtain ⟨k, x, hk, rfl, rfl, Hx, hE⟩ := hrel
    have hxb := csum_bd cI (l.take k) (cI_bd (bdi.take k)) 0
    have hlk : (l.take k).length ≤ k := by rw [List.length_take]; omega
    rw [Hx.out] at hxb
    by_cases hlt : k < l.length
    · have hst := csum_take cI l 0 k hlt
      rw [Hx.out] at hst
      have hs := bdi.get hlt
      obtain ⟨b, off, rfl, hbB, hc0, hc1⟩ := hi8.at_ hlt
      have hd0 := (hE.cell ⟨b, off + k * 2, none⟩ hbB).trans hc0
      have hd1 := (hE.cell ⟨b, off + k * 2 + 1, none⟩ hbB).trans hc1
      clear hc0 hc1 hi8
      generalize l[k] = s at *
      obtain ⟨lo, hi⟩ := s
      simp only [cI] at hd0 hd1 hs hst
      obtain ⟨t1, t2, t3, t4⟩ := hs
      have Hst := Lib.hid hst
      clear hst
      go_wp2
      go_roundw
      case rel => exact ⟨k + 1, x + (hi - lo + 1), by omega, by go_num, rfl, Hst.out, hE.alloc _⟩
      case measure => simp [intOf]; omega
    · have hkl : k = l.length := by omega
      subst hkl
      have hx2 := Hx.out
      rw [List.take_of_length_le (Nat.le_refl _)] at hx2
      rw [List.take_of_length_le (Nat.le_refl _)] at hxb
      have HX := Lib.hid hx2
      have hq0 := (HB3.out.ext hE).cell0
      have hq1 := (HB3.out.ext hE).cell1
      obtain ⟨wo, rfl⟩ : ∃ wo : World, wo = wr := ⟨_, rfl⟩
      clear hx2 hi8 hlt hk Hx
      go_wp2
      go_loopw [4, 8, 30] (fun vn _ i wr => ∃ (k : Nat) (y : Int), k ≤ l'.length ∧ i = .int .i64 k ∧ vn = .int .i64 y ∧ Hid (csum cF (l'.take k) x = y) ∧ Ext wo wr) (fun _ _ i _ => l'.length - (intOf i).toNat)
      case atStart => exact ⟨0, x, Nat.zero_le _, rfl, rfl, rfl, Ext.refl _⟩
      case round =>
        obtain ⟨k, y, hk, rfl, rfl, Hy, hE2⟩ := hrel
        have hyb := csum_bd cF (l'.take k) (cF_bd (bdf.take k)) x
        have hlk2 : (l'.take k).length ≤ k := by rw [List.length_take]; omega
        rw [Hy.out] at hyb
        by_cases hlt : k < l'.length
        · have hst := csum_take cF l' x k hlt
          rw [Hy.out] at hst
          have hs := bdf.get hlt
          obtain ⟨b, off, rfl, hbB, hc0, hc1⟩ := hf8.at_ hlt
          have hd0 := ((hE.trans hE2).cell ⟨b, off + k * 2, none⟩ hbB).trans hc0
          have hd1 := ((hE.trans hE2).cell ⟨b, off + k * 2 + 1, none⟩ hbB).trans hc1
          clear hc0 hc1 hf8
          generalize l'[k] = s at *
          obtain ⟨lo, hi⟩ := s
          simp only [cF] at hd0 hd1 hs hst
          obtain ⟨t1, t2, t3, t4⟩ := hs
          have hfl : -300000000000 ≤ floorI hi ∧ floorI hi ≤ 300000000000 := by unfold floorI; omega
          have hfl2 : -300000000000 ≤ floorI (lo - 1) ∧ floorI (lo - 1) ≤ 300000000000 := by unfold floorI; omega
          have Hst := Lib.hid hst
          clear hst
          go_wp2_with fail
          go_quiet (first | (go_at_call 50; refine Calls.quiet_of_same ((floorP_any _ _ (by omega) (by omega)).mono fun _ _ ⟨he, hw⟩ => ⟨he, hw.symm⟩)))
          go_wp2
          go_roundw
          case rel => exact ⟨k + 1, y + (hi - lo + 1 - floorI hi + floorI (lo - 1)), by omega, by go_num, rfl, Hst.out, (hE2.alloc _).drewN _⟩
          case measure => simp [intOf]; omega
        · have hkl : k = l'.length := by omega
          subst hkl
          have hy2 := Hy.out
          rw [List.take_of_length_le (Nat.le_refl _)] at hy2
          have HY := Lib.hid hy2
          clear hy2
          go_wp2
          go_ret
          exact ⟨by rw [HD.out, HX.out, HY.out]; rfl, (HEW.out.trans hE).trans hE2⟩

end Go.Proofs.Ytaianhhmmacblaa
