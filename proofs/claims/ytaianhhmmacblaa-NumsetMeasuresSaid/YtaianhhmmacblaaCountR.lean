import Derived.Test.YtaianhhmmacblaaHasR
import Derived.Test.YtaianhhmmacblaaSets3
/-
  The reference's Count.
-/
namespace Go.Proofs.Ytaianhhmmacblaa
open Go.RowKit

theorem intsR_r (l : List (Int × Int)) : ∀ s ∈ intsR l, (-100000000000 ≤ s.1 ∧ s.1 ≤ 100000000000) ∧ (-100000000000 ≤ s.2 ∧ s.2 ≤ 100000000000) := fun s hs => by
  have h1 := (intsR_spec l).2.1 s hs
  have h2 := (intsR_spec l).1.1 s hs
  omega
theorem fracsR_r (l : List (Int × Int)) : ∀ s ∈ fracsR l, (-1000000000000000 ≤ s.1 ∧ s.1 ≤ 1000000000000000) ∧ (-1000000000000000 ≤ s.2 ∧ s.2 ≤ 1000000000000000) := fun s hs => by
  have h1 := (fracsR_spec l).2.1 s hs
  have h2 := (fracsR_spec l).1.1 s hs
  omega
theorem cI_bd2 {l : List (Int × Int)} (h : ∀ s ∈ l, (-1000000000000000 ≤ s.1 ∧ s.1 ≤ 1000000000000000) ∧ (-1000000000000000 ≤ s.2 ∧ s.2 ≤ 1000000000000000)) : ∀ s ∈ l, -4001000000000000 ≤ cI s ∧ cI s ≤ 4001000000000000 := fun s hs => by have := h s hs; unfold cI; omega

set_option maxRecDepth 100000 in
set_option maxHeartbeats 1000000 in
theorem countR_any (w : World) (v0 : Value) (d : Nm) (h0 : NmAt w v0 d) (hs : Sz 400 d) :
    Calls Try.prog 25 #[v0] w fun e w' => e = .returned (.int .i64 (countR d)) ∧ Ext w w' := by
  have g0 := h0
  obtain ⟨A0, c0, B0, e0, rfl, x0, y0⟩ := g0
  have b0 : BlkN (w.alloc (.cells #[.slice A0 d.ints.length c0, .slice B0 d.fracs.length e0] 24)) w.heap.size (.slice A0 d.ints.length c0) (.slice B0 d.fracs.length e0) := by simpa using BlkN.new w (.slice A0 d.ints.length c0) (.slice B0 d.fracs.length e0)
  have hEW : Ext w (w.alloc (.cells #[.slice A0 d.ints.length c0, .slice B0 d.fracs.length e0] 24)) := (Ext.refl w).alloc _
  have k0 := h0.ext hEW
  have f0a := fun w' (h : Ext (w.alloc (.cells #[.slice A0 d.ints.length c0, .slice B0 d.fracs.length e0] 24)) w') => (b0.ext h).cell0
  have f0b := fun w' (h : Ext (w.alloc (.cells #[.slice A0 d.ints.length c0, .slice B0 d.fracs.length e0] 24)) w') => (b0.ext h).cell1
  have K0 := Lib.hid k0
  have si0 : SpAt (w.alloc (.cells #[.slice A0 d.ints.length c0, .slice B0 d.fracs.length e0] 24)) (.slice A0 d.ints.length c0) d.ints := ⟨A0, c0, rfl, x0.ext hEW⟩
  have sf0 : SpAt (w.alloc (.cells #[.slice A0 d.ints.length c0, .slice B0 d.fracs.length e0] 24)) (.slice B0 d.fracs.length e0) d.fracs := ⟨B0, e0, rfl, y0.ext hEW⟩
  have SI0 := Lib.hid si0
  have SF0 := Lib.hid sf0
  clear si0 sf0
  have HE := Lib.hid hEW
  clear hEW b0 h0 k0 x0 y0
  go_enter Try.func25, Try.ntmps25
  have HD : Hid (countR d = csum cI (fracsR d.fracs) (csum cI (intsR d.ints) 0)) := Lib.hid rfl
  generalize hWn : w.alloc (.cells #[.slice A0 d.ints.length c0, .slice B0 d.fracs.length e0] 24) = W at *
  clear SI0 SF0
  have hq0 := f0a _ (Ext.refl _)
  have hq1 := f0b _ (Ext.refl _)
  go_wp2_with fail
  refine (intsR_any _ _ d K0.out (by have := hs.1; omega)).mono ?_
  rintro e w1 ⟨r, rfl, ⟨A8, c8, rfl, i8⟩, hE1⟩
  have bdi : ∀ s ∈ intsR d.ints, (-1000000000000000 ≤ s.1 ∧ s.1 ≤ 1000000000000000) ∧ (-1000000000000000 ≤ s.2 ∧ s.2 ≤ 1000000000000000) := fun s hs => by have := intsR_r d.ints s hs; omega
  have hln : (intsR d.ints).length ≤ 400 := Nat.le_trans (intsR_len _) hs.1
  have HE1 := Lib.hid hE1
  clear hE1 hq0 hq1 hWn
  generalize intsR d.ints = l at *
  go_wp2_with fail
  go_loopw [3, 5, 11] (fun vn _ i wr => ∃ (k : Nat) (x : Int), k ≤ l.length ∧ i = .int .i64 k ∧ vn = .int .i64 x ∧ Hid (csum cI (l.take k) 0 = x) ∧ Ext w1 wr) (fun _ _ i _ => l.length - (intOf i).toNat)
  case atStart => exact ⟨0, 0, Nat.zero_le _, rfl, rfl, rfl, Ext.refl _⟩
  case round =>
    obtain ⟨k, x, hk, rfl, rfl, Hx, hE⟩ := hrel
    have hxb := csum_bd cI (l.take k) (cI_bd2 fun s hs => bdi s (List.mem_of_mem_take hs)) 0
    have hlk : (l.take k).length ≤ k := by rw [List.length_take]; omega
    rw [Hx.out] at hxb
    by_cases hlt : k < l.length
    · have hst := csum_take cI l 0 k hlt
      rw [Hx.out] at hst
      have hs := bdi _ (List.getElem_mem hlt)
      obtain ⟨b, off, rfl, hbB, hc0, hc1⟩ := i8.at_ hlt
      have hd0 := (hE.cell ⟨b, off + k * 2, none⟩ hbB).trans hc0
      have hd1 := (hE.cell ⟨b, off + k * 2 + 1, none⟩ hbB).trans hc1
      clear hc0 hc1 i8
      generalize l[k] = s at *
      obtain ⟨lo, hi⟩ := s
      simp only [cI] at hd0 hd1 hs hst
      obtain ⟨⟨t1, t2⟩, t3, t4⟩ := hs
      have Hst := Lib.hid hst
      clear hst
      go_wp2
      go_roundw
      case rel => exact ⟨k + 1, x + hi - lo + 1, by omega, by go_num, rfl, Lib.hid (by rw [Hst.out]; omega), hE.alloc _⟩
      case measure => simp [intOf]; omega
    · have hkl : k = l.length := by omega
      subst hkl
      have hx2 := Hx.out
      rw [List.take_of_length_le (Nat.le_refl _)] at hx2
      rw [List.take_of_length_le (Nat.le_refl _)] at hxb
      have HX := Lib.hid hx2
      have HEr := Lib.hid (HE1.out.trans hE)
      have hq0 := f0a _ HEr.out
      have hq1 := f0b _ HEr.out
      obtain ⟨wo, rfl⟩ : ∃ wo : World, wo = wr := ⟨_, rfl⟩
      clear hx2 i8 hlt hk Hx hE bdi f0a f0b
      go_wp2_with fail
      refine (fracsR_any _ _ d (K0.out.ext HEr.out) (by have := hs.2; omega)).mono ?_
      rintro e w2 ⟨r, rfl, ⟨A9, c9, rfl, i9⟩, hE2⟩
      have bdf := fracsR_r d.fracs
      have hlf : (fracsR d.fracs).length ≤ 400 := Nat.le_trans (fracsR_len _) hs.2
      have HE2 := Lib.hid (HEr.out.trans hE2)
      clear hE2 hq0 hq1
      generalize fracsR d.fracs = l' at *
      go_wp2_with fail
      go_loopw [3, 7, 27] (fun vn _ i wr => ∃ (k : Nat) (y : Int), k ≤ l'.length ∧ i = .int .i64 k ∧ vn = .int .i64 y ∧ Hid (csum cI (l'.take k) x = y) ∧ Ext w2 wr) (fun _ _ i _ => l'.length - (intOf i).toNat)
      case atStart => exact ⟨0, x, Nat.zero_le _, rfl, rfl, rfl, Ext.refl _⟩
      case round =>
        obtain ⟨k, y, hk, rfl, rfl, Hy, hE2⟩ := hrel
        have hyb := csum_bd cI (l'.take k) (cI_bd2 fun s hs => bdf s (List.mem_of_mem_take hs)) x
        have hlk2 : (l'.take k).length ≤ k := by rw [List.length_take]; omega
        rw [Hy.out] at hyb
        by_cases hlt : k < l'.length
        · have hst := csum_take cI l' x k hlt
          rw [Hy.out] at hst
          have hs := bdf _ (List.getElem_mem hlt)
          obtain ⟨b, off, rfl, hbB, hc0, hc1⟩ := i9.at_ hlt
          have hd0 := (hE2.cell ⟨b, off + k * 2, none⟩ hbB).trans hc0
          have hd1 := (hE2.cell ⟨b, off + k * 2 + 1, none⟩ hbB).trans hc1
          clear hc0 hc1 i9
          generalize l'[k] = s at *
          obtain ⟨lo, hi⟩ := s
          simp only [cI] at hd0 hd1 hs hst
          obtain ⟨⟨t1, t2⟩, t3, t4⟩ := hs
          have Hst := Lib.hid hst
          clear hst
          go_wp2
          go_roundw
          case rel => exact ⟨k + 1, y + hi - lo + 1, by omega, by go_num, rfl, Lib.hid (by rw [Hst.out]; omega), hE2.alloc _⟩
          case measure => simp [intOf]; omega
        · have hkl : k = l'.length := by omega
          subst hkl
          have hy2 := Hy.out
          rw [List.take_of_length_le (Nat.le_refl _)] at hy2
          have HY := Lib.hid hy2
          clear hy2
          go_wp2
          go_ret
          exact ⟨by rw [HD.out, HX.out, HY.out] <;> rfl, HE.out.trans (HE2.out.trans hE2)⟩

end Go.Proofs.Ytaianhhmmacblaa
