import Derived.Test.YtaianhhmmacblaaSame
/-
  Same, of the reference and of the program.
-/
namespace Go.Proofs.Ytaianhhmmacblaa
open Go.RowKit

theorem sameN_iff (a b : Nm) : sameN a b = (decide (a.ints = b.ints) && decide (a.fracs = b.fracs)) := by
  unfold sameN
  cases a; cases b
  simp
set_option maxRecDepth 100000 in
set_option maxHeartbeats 400000 in
theorem sameR_any (w : World) (v0 : Value) (a : Nm) (h0 : NmAt w v0 a) (v1 : Value) (b : Nm) (h1 : NmAt w v1 b) (hs : Sz 100000000 a) (hs' : Sz 100000000 b) :
    Calls Try.prog 14 #[v0, v1] w fun e w' => e = .returned (.bool (sameN a b)) ∧ Ext w w' := by
  have g0 := h0
  obtain ⟨A0, c0, B0, e0, rfl, x0, y0⟩ := g0
  have g1 := h1
  obtain ⟨A1, c1, B1, e1, rfl, x1, y1⟩ := g1
  have b0 : BlkN ((w.alloc (.cells #[.slice A0 a.ints.length c0, .slice B0 a.fracs.length e0] 24)).alloc (.cells #[.slice A1 b.ints.length c1, .slice B1 b.fracs.length e1] 24)) w.heap.size (.slice A0 a.ints.length c0) (.slice B0 a.fracs.length e0) := by simpa using (BlkN.new w (.slice A0 a.ints.length c0) (.slice B0 a.fracs.length e0)).alloc _
  have b1 : BlkN ((w.alloc (.cells #[.slice A0 a.ints.length c0, .slice B0 a.fracs.length e0] 24)).alloc (.cells #[.slice A1 b.ints.length c1, .slice B1 b.fracs.length e1] 24)) (w.heap.size + 1) (.slice A1 b.ints.length c1) (.slice B1 b.fracs.length e1) := by simpa using BlkN.new (w.alloc (.cells #[.slice A0 a.ints.length c0, .slice B0 a.fracs.length e0] 24)) (.slice A1 b.ints.length c1) (.slice B1 b.fracs.length e1)
  have hEW : Ext w ((w.alloc (.cells #[.slice A0 a.ints.length c0, .slice B0 a.fracs.length e0] 24)).alloc (.cells #[.slice A1 b.ints.length c1, .slice B1 b.fracs.length e1] 24)) := ((Ext.refl w).alloc _).alloc _
  have k0 := h0.ext hEW
  have k1 := h1.ext hEW
  have f0a := fun w' (h : Ext ((w.alloc (.cells #[.slice A0 a.ints.length c0, .slice B0 a.fracs.length e0] 24)).alloc (.cells #[.slice A1 b.ints.length c1, .slice B1 b.fracs.length e1] 24)) w') => (b0.ext h).cell0
  have f0b := fun w' (h : Ext ((w.alloc (.cells #[.slice A0 a.ints.length c0, .slice B0 a.fracs.length e0] 24)).alloc (.cells #[.slice A1 b.ints.length c1, .slice B1 b.fracs.length e1] 24)) w') => (b0.ext h).cell1
  have f1a := fun w' (h : Ext ((w.alloc (.cells #[.slice A0 a.ints.length c0, .slice B0 a.fracs.length e0] 24)).alloc (.cells #[.slice A1 b.ints.length c1, .slice B1 b.fracs.length e1] 24)) w') => (b1.ext h).cell0
  have f1b := fun w' (h : Ext ((w.alloc (.cells #[.slice A0 a.ints.length c0, .slice B0 a.fracs.length e0] 24)).alloc (.cells #[.slice A1 b.ints.length c1, .slice B1 b.fracs.length e1] 24)) w') => (b1.ext h).cell1
  have K0 := Lib.hid k0
  have K1 := Lib.hid k1
  have si0 : SpAt ((w.alloc (.cells #[.slice A0 a.ints.length c0, .slice B0 a.fracs.length e0] 24)).alloc (.cells #[.slice A1 b.ints.length c1, .slice B1 b.fracs.length e1] 24)) (.slice A0 a.ints.length c0) a.ints := ⟨A0, c0, rfl, x0.ext hEW⟩
  have sf0 : SpAt ((w.alloc (.cells #[.slice A0 a.ints.length c0, .slice B0 a.fracs.length e0] 24)).alloc (.cells #[.slice A1 b.ints.length c1, .slice B1 b.fracs.length e1] 24)) (.slice B0 a.fracs.length e0) a.fracs := ⟨B0, e0, rfl, y0.ext hEW⟩
  have SI0 := Lib.hid si0
  have SF0 := Lib.hid sf0
  clear si0 sf0
  have si1 : SpAt ((w.alloc (.cells #[.slice A0 a.ints.length c0, .slice B0 a.fracs.length e0] 24)).alloc (.cells #[.slice A1 b.ints.length c1, .slice B1 b.fracs.length e1] 24)) (.slice A1 b.ints.length c1) b.ints := ⟨A1, c1, rfl, x1.ext hEW⟩
  have sf1 : SpAt ((w.alloc (.cells #[.slice A0 a.ints.length c0, .slice B0 a.fracs.length e0] 24)).alloc (.cells #[.slice A1 b.ints.length c1, .slice B1 b.fracs.length e1] 24)) (.slice B1 b.fracs.length e1) b.fracs := ⟨B1, e1, rfl, y1.ext hEW⟩
  have SI1 := Lib.hid si1
  have SF1 := Lib.hid sf1
  clear si1 sf1
  have HE := Lib.hid hEW
  clear hEW b0 h0 k0 x0 y0 b1 h1 k1 x1 y1
  go_enter Try.func14, Try.ntmps14
  rw [sameN_iff]
  by_cases h1 : a.ints = b.ints
  · have hd : decide (a.ints = b.ints) = true := decide_eq_true h1
    have H1 := Lib.hid h1
    clear h1
    go_wp2_with fail
    refine (sameSpans_any _ _ _ a.ints b.ints SI0.out SI1.out hs.1 hs'.1).mono ?_
    rw [hd]
    rintro e w1 ⟨rfl, hE1⟩
    clear hd
    go_wp2_with fail
    refine (sameSpans_any _ _ _ a.fracs b.fracs (SF0.out.ext hE1) (SF1.out.ext hE1) hs.2 hs'.2).mono ?_
    rintro e w2 ⟨rfl, hE2⟩
    have HF := Lib.hid ((HE.out.trans hE1).trans hE2)
    go_wp2
    go_ret
    exact ⟨by simp [H1.out], HF.out⟩
  · have hd : decide (a.ints = b.ints) = false := decide_eq_false h1
    have H1 := Lib.hid h1
    clear h1
    go_wp2_with fail
    refine (sameSpans_any _ _ _ a.ints b.ints SI0.out SI1.out hs.1 hs'.1).mono ?_
    rw [hd]
    rintro e w1 ⟨rfl, hE1⟩
    have HF := Lib.hid (HE.out.trans hE1)
    clear hd
    go_wp2
    go_ret
    exact ⟨by simp [H1.out], HF.out⟩

set_option maxRecDepth 100000 in
set_option maxHeartbeats 400000 in
theorem sameP_any (w : World) (v0 : Value) (a : Nm) (h0 : NmAt w v0 a) (v1 : Value) (b : Nm) (h1 : NmAt w v1 b) (hs : Sz 100000000 a) (hs' : Sz 100000000 b) :
    Calls Try.prog 71 #[v0, v1] w fun e w' => e = .returned (.bool (sameN a b)) ∧ Ext w w' := by
  have g0 := h0
  obtain ⟨A0, c0, B0, e0, rfl, x0, y0⟩ := g0
  have g1 := h1
  obtain ⟨A1, c1, B1, e1, rfl, x1, y1⟩ := g1
  have b0 : BlkN ((w.alloc (.cells #[.slice A0 a.ints.length c0, .slice B0 a.fracs.length e0] 24)).alloc (.cells #[.slice A1 b.ints.length c1, .slice B1 b.fracs.length e1] 24)) w.heap.size (.slice A0 a.ints.length c0) (.slice B0 a.fracs.length e0) := by simpa using (BlkN.new w (.slice A0 a.ints.length c0) (.slice B0 a.fracs.length e0)).alloc _
  have b1 : BlkN ((w.alloc (.cells #[.slice A0 a.ints.length c0, .slice B0 a.fracs.length e0] 24)).alloc (.cells #[.slice A1 b.ints.length c1, .slice B1 b.fracs.length e1] 24)) (w.heap.size + 1) (.slice A1 b.ints.length c1) (.slice B1 b.fracs.length e1) := by simpa using BlkN.new (w.alloc (.cells #[.slice A0 a.ints.length c0, .slice B0 a.fracs.length e0] 24)) (.slice A1 b.ints.length c1) (.slice B1 b.fracs.length e1)
  have hEW : Ext w ((w.alloc (.cells #[.slice A0 a.ints.length c0, .slice B0 a.fracs.length e0] 24)).alloc (.cells #[.slice A1 b.ints.length c1, .slice B1 b.fracs.length e1] 24)) := ((Ext.refl w).alloc _).alloc _
  have k0 := h0.ext hEW
  have k1 := h1.ext hEW
  have f0a := fun w' (h : Ext ((w.alloc (.cells #[.slice A0 a.ints.length c0, .slice B0 a.fracs.length e0] 24)).alloc (.cells #[.slice A1 b.ints.length c1, .slice B1 b.fracs.length e1] 24)) w') => (b0.ext h).cell0
  have f0b := fun w' (h : Ext ((w.alloc (.cells #[.slice A0 a.ints.length c0, .slice B0 a.fracs.length e0] 24)).alloc (.cells #[.slice A1 b.ints.length c1, .slice B1 b.fracs.length e1] 24)) w') => (b0.ext h).cell1
  have f1a := fun w' (h : Ext ((w.alloc (.cells #[.slice A0 a.ints.length c0, .slice B0 a.fracs.length e0] 24)).alloc (.cells #[.slice A1 b.ints.length c1, .slice B1 b.fracs.length e1] 24)) w') => (b1.ext h).cell0
  have f1b := fun w' (h : Ext ((w.alloc (.cells #[.slice A0 a.ints.length c0, .slice B0 a.fracs.length e0] 24)).alloc (.cells #[.slice A1 b.ints.length c1, .slice B1 b.fracs.length e1] 24)) w') => (b1.ext h).cell1
  have K0 := Lib.hid k0
  have K1 := Lib.hid k1
  have si0 : SpAt ((w.alloc (.cells #[.slice A0 a.ints.length c0, .slice B0 a.fracs.length e0] 24)).alloc (.cells #[.slice A1 b.ints.length c1, .slice B1 b.fracs.length e1] 24)) (.slice A0 a.ints.length c0) a.ints := ⟨A0, c0, rfl, x0.ext hEW⟩
  have sf0 : SpAt ((w.alloc (.cells #[.slice A0 a.ints.length c0, .slice B0 a.fracs.length e0] 24)).alloc (.cells #[.slice A1 b.ints.length c1, .slice B1 b.fracs.length e1] 24)) (.slice B0 a.fracs.length e0) a.fracs := ⟨B0, e0, rfl, y0.ext hEW⟩
  have SI0 := Lib.hid si0
  have SF0 := Lib.hid sf0
  clear si0 sf0
  have si1 : SpAt ((w.alloc (.cells #[.slice A0 a.ints.length c0, .slice B0 a.fracs.length e0] 24)).alloc (.cells #[.slice A1 b.ints.length c1, .slice B1 b.fracs.length e1] 24)) (.slice A1 b.ints.length c1) b.ints := ⟨A1, c1, rfl, x1.ext hEW⟩
  have sf1 : SpAt ((w.alloc (.cells #[.slice A0 a.ints.length c0, .slice B0 a.fracs.length e0] 24)).alloc (.cells #[.slice A1 b.ints.length c1, .slice B1 b.fracs.length e1] 24)) (.slice B1 b.fracs.length e1) b.fracs := ⟨B1, e1, rfl, y1.ext hEW⟩
  have SI1 := Lib.hid si1
  have SF1 := Lib.hid sf1
  clear si1 sf1
  have HE := Lib.hid hEW
  clear hEW b0 h0 k0 x0 y0 b1 h1 k1 x1 y1
  go_enter Try.func71, Try.ntmps71
  rw [sameN_iff]
  by_cases h1 : a.ints = b.ints
  · have hd : decide (a.ints = b.ints) = true := decide_eq_true h1
    have H1 := Lib.hid h1
    clear h1
    go_wp2_with fail
    refine (equalSpans_any _ _ _ a.ints b.ints SI0.out SI1.out hs.1 hs'.1).mono ?_
    rw [hd]
    rintro e w1 ⟨rfl, hE1⟩
    clear hd
    go_wp2_with fail
    refine (equalSpans_any _ _ _ a.fracs b.fracs (SF0.out.ext hE1) (SF1.out.ext hE1) hs.2 hs'.2).mono ?_
    rintro e w2 ⟨rfl, hE2⟩
    have HF := Lib.hid ((HE.out.trans hE1).trans hE2)
    go_wp2
    go_ret
    exact ⟨by simp [H1.out], HF.out⟩
  · have hd : decide (a.ints = b.ints) = false := decide_eq_false h1
    have H1 := Lib.hid h1
    clear h1
    go_wp2_with fail
    refine (equalSpans_any _ _ _ a.ints b.ints SI0.out SI1.out hs.1 hs'.1).mono ?_
    rw [hd]
    rintro e w1 ⟨rfl, hE1⟩
    have HF := Lib.hid (HE.out.trans hE1)
    clear hd
    go_wp2
    go_ret
    exact ⟨by simp [H1.out], HF.out⟩

end Go.Proofs.Ytaianhhmmacblaa
