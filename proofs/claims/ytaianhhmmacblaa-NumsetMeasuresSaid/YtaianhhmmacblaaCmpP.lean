import Derived.Test.YtaianhhmmacblaaLeastP
import Derived.Test.YtaianhhmmacblaaSets3
/-
  The program's Single, Compare.
-/
namespace Go.Proofs.Ytaianhhmmacblaa
open Go.RowKit

theorem leastP_bd (d : Nm) : -2000000000000000 ≤ (leastP d).1 ∧ (leastP d).1 ≤ 2000000000000000 := by
  unfold leastP
  refine tkf_bd (fun s => nearI s 1) _ (fun s hs => ?_) _ ?_
  · have := makeR_bddF d s hs
    exact nearI_bd ⟨this.1, this.2.1⟩ ⟨this.2.2.1, this.2.2.2⟩ (by omega)
  · refine tkf_bd (fun s => nearI s 0 * 10000) _ (fun s hs => ?_) _ (by simp only; omega)
    have := makeR_rI d s hs
    have := nearI_bd (B := 100000000000) (s := s) (m := 0) this.1 this.2 (by omega)
    omega
theorem minusP_inr (a b : Nm) : InR (minusP a b).fracs := andP_inr _ _
def singleP (d : Nm) : Int × Bool := if countP d ≠ 1 then (0, false) else leastP d

set_option maxRecDepth 100000 in
set_option maxHeartbeats 1000000 in
theorem singleP_any (w : World) (v0 : Value) (d : Nm) (h0 : NmAt w v0 d) (hs : Sz 900 d) (hr : InR d.fracs) :
    Calls Try.prog 22 #[v0] w fun e w' => e = .returned (.tuple #[.int .i64 (singleP d).1, .bool (singleP d).2]) ∧ Ext w w' := by
  have g0 := h0
  obtain ⟨A0, c0, B0, e0, rfl, x0, y0⟩ := g0
  have b0 : BlkN (w.alloc (.cells #[.slice A0 d.ints.length c0, .slice B0 d.fracs.length e0] 24)) w.heap.size (.slice A0 d.ints.length c0) (.slice B0 d.fracs.length e0) := by simpa using BlkN.new w (.slice A0 d.ints.length c0) (.slice B0 d.fracs.length e0)
  have hEW : Ext w (w.alloc (.cells #[.slice A0 d.ints.length c0, .slice B0 d.fracs.length e0] 24)) := (Ext.refl w).alloc _
  have k0 := h0.ext hEW
  have f0a := fun w' (h : Ext (w.alloc (.cells #[.slice A0 d.ints.length c0, .slice B0 d.fracs.length e0] 24)) w') => (b0.ext h).cell0
  have f0b := fun w' (h : Ext (w.alloc (.cells #[.slice A0 d.ints.length c0, .slice B0 d.fracs.length e0] 24)) w') => (b0.ext h).cell1
  have K0 := Lib.hid k0
  have si0 : SpAt (w.alloc (.cells #[.slice A0 d.ints.length c0, .slice B0 d.fracs.length e0] 24)) (.slice A0 d.ints.length c0) d.ints := ⟨A0, c0, rfl, x0.ext hEW⟩
  have sf0 : SpAt (w.alloc (.cells #[.slice A0 d.ints.length c0, .slice B0 d.fracs.length e0] 24)) (.slice B0 d.fracs.length e0) d.fracs := ⟨B0, e0, rfl, y0.ext hEW⟩
  have SI0 := Lib.hid si0
  have SF0 := Lib.hid sf0
  clear si0 sf0
  have HE := Lib.hid hEW
  clear hEW b0 h0 k0 x0 y0
  go_enter Try.func22, Try.ntmps22
  have hdef : Hid (singleP d = if countP d ≠ 1 then (0, false) else leastP d) := Lib.hid rfl
  have H0 := Lib.hid hs
  have HR := Lib.hid hr
  clear hs hr
  go_wp2_with fail
  refine (countP_any _ _ d K0.out H0.out HR.out).mono ?_
  rintro e w1 ⟨rfl, hE1⟩
  generalize hc : countP d = c at *
  have HC := Lib.hid hc
  clear hc
  have hf := f0a _ hE1
  have hg := f0b _ hE1
  have k1 := K0.out.ext hE1
  have K1 := Lib.hid k1
  have HE1 := Lib.hid (HE.out.trans hE1)
  clear k1 hE1 f0a f0b
  by_cases h1 : c = 1
  · subst h1
    have hdef2 : singleP d = leastP d := by rw [hdef.out]; simp
    have HD := Lib.hid hdef2
    clear hdef2
    go_wp2_with fail
    refine (leastP_any _ _ d K1.out (H0.out.mono (by omega)) HR.out).mono ?_
    rintro e w2 ⟨rfl, hE2⟩
    rw [← HD.out]
    clear hdef HD
    obtain ⟨u, b⟩ : ∃ r, singleP d = r := ⟨_, rfl⟩
    have HQ := Lib.hid b
    clear b
    rw [HQ.out]
    obtain ⟨u1, u2⟩ := u
    have HE2 := Lib.hid (HE1.out.trans hE2)
    clear hE2
    go_wp2
    exact bodyPost_ret (results_tmp2 rfl _ _ _) rfl ⟨by rw [HQ.out]; simp, HE2.out⟩
  · have hdef2 : singleP d = (0, false) := by rw [hdef.out]; simp [h1]
    have HD := Lib.hid hdef2
    clear hdef2
    have h2 : (c == 1) = false := by simpa using h1
    go_wp2_with fail
    refine bodyPost_ret (results_tmp2 rfl _ _ _) rfl ⟨by rw [HD.out]; simp, HE1.out⟩

set_option maxRecDepth 100000 in
set_option maxHeartbeats 1000000 in
theorem cmpP_any (w : World) (v0 : Value) (a : Nm) (h0 : NmAt w v0 a) (v1 : Value) (b : Nm) (h1 : NmAt w v1 b) (hs : Sz 900 a) (hs' : Sz 900 b) (hr : InR a.fracs) (hr' : InR b.fracs) :
    Calls Try.prog 26 #[v0, v1] w fun e w' => e = .returned (.int .i64 (cmpP a b)) ∧ Ext w w' := by
  have g0 := h0
  obtain ⟨A0, c0, B0, e0, rfl, x0, y0⟩ := g0
  have g1 := h1
  obtain ⟨A1, c1, B1, e1, rfl, x1, y1⟩ := g1
  have b0 : BlkN ((w.alloc (.cells #[.slice A0 a.ints.length c0, .slice B0 a.fracs.length e0] 24)).alloc (.cells #[.slice A1 b.ints.length c1, .slice B1 b.fracs.length e1] 24)) w.heap.size (.slice A0 a.ints.length c0) (.slice B0 a.fracs.length e0) := by simpa using (BlkN.new w (.slice A0 a.ints.length c0) (.slice B0 a.fracs.length e0)).alloc _
  have b1 : BlkN ((w.alloc (.cells #[.slice A0 a.ints.length c0, .slice B0 a.fracs.length e0] 24)).alloc (.cells #[.slice A1 b.ints.length c1, .slice B1 b.fracs.length e1] 24)) (w.heap.size + 1) (.slice A1 b.ints.length c1) (.slice B1 b.fracs.length e1) := by simpa using BlkN.new (w.alloc (.cells #[.slice A0 a.ints.length c0, .slice B0 a.fracs.length e0] 24)) (.slice A1 b.ints.length c1) (.slice B1 b.fracs.length e1)
  have hEW : Ext w ((w.alloc (.cells #[.slice A0 a.ints.length c0, .slice B0 a.fracs.length e0] 24)).alloc (.cells #[.slice A1 b.ints.length c1, .slice B1 b.fracs.length e1] 24)) := ((Ext.refl w).alloc _).alloc _
  have k0 := h0.ext hEW
  have k1 := h1.ext hEW
  have f0a := fun w' (h : Ext ((w.alloc (.cells #[.slice A0 a.ints.length c0, .slice B0 a.fracs.length e0] 24)).alloc (.cells #[.slice A1 b.ints.length c1, .slice B1 b.fracs.length e1] 24)) w') => (b0.ext h).cell0
  have f0b := fun w' (h : Ext ((w.alloc (.cells #[.slice A0 a.ints.length c0, .slice B0 a.fracs.length e0] 24)).alloc (.cells #[.slice A1 b.ints.length c1, .slice B1 b.fracs.length e1] 24)) w') => (b0.ext h).cell1
  have f1a := fun w' (h : Ext ((w.alloc (.cells #[.slice A0 a.ints.length c0, .slice B0 a.fracs.length e0] 24)).alloc (.cells #[.slice A1 b.ints.length c1, .slice B1 b.fracs.length e1] 24)) w') => (b1.ext h).cell0
  have f1b := fun w' (h : Ext ((w.alloc (.cells #[.slice A0 a.ints.length c0, .slice B0 a.fracs.length e0] 24)).alloc (.cells #[.slice A1 b.ints.length c1, .slice B1 b.fracs.length e1] 24)) w') => (b1.ext h).cell1
  have K0 := Lib.hid k0
  have K1 := Lib.hid k1
  have si0 : SpAt ((w.alloc (.cells #[.slice A0 a.ints.length c0, .slice B0 a.fracs.length e0] 24)).alloc (.cells #[.slice A1 b.ints.length c1, .slice B1 b.fracs.length e1] 24)) (.slice A0 a.ints.length c0) a.ints := ⟨A0, c0, rfl, x0.ext hEW⟩
  have sf0 : SpAt ((w.alloc (.cells #[.slice A0 a.ints.length c0, .slice B0 a.fracs.length e0] 24)).alloc (.cells #[.slice A1 b.ints.length c1, .slice B1 b.fracs.length e1] 24)) (.slice B0 a.fracs.length e0) a.fracs := ⟨B0, e0, rfl, y0.ext hEW⟩
  have SI0 := Lib.hid si0
  have SF0 := Lib.hid sf0
  clear si0 sf0
  have si1 : SpAt ((w.alloc (.cells #[.slice A0 a.ints.length c0, .slice B0 a.fracs.length e0] 24)).alloc (.cells #[.slice A1 b.ints.length c1, .slice B1 b.fracs.length e1] 24)) (.slice A1 b.ints.length c1) b.ints := ⟨A1, c1, rfl, x1.ext hEW⟩
  have sf1 : SpAt ((w.alloc (.cells #[.slice A0 a.ints.length c0, .slice B0 a.fracs.length e0] 24)).alloc (.cells #[.slice A1 b.ints.length c1, .slice B1 b.fracs.length e1] 24)) (.slice B1 b.fracs.length e1) b.fracs := ⟨B1, e1, rfl, y1.ext hEW⟩
  have SI1 := Lib.hid si1
  have SF1 := Lib.hid sf1
  clear si1 sf1
  have HE := Lib.hid hEW
  clear hEW b0 h0 k0 x0 y0 b1 h1 k1 x1 y1
  go_enter Try.func26, Try.ntmps26
  have hdef : Hid (cmpP a b = cmpL (leastP (minusP a b)) (leastP (minusP b a))) := Lib.hid rfl
  have L1 := leastP_bd (minusP a b)
  have L2 := leastP_bd (minusP b a)
  have M1 := Lib.hid (minusP_sz hs hs')
  have M2 := Lib.hid (minusP_sz hs' hs)
  have H0 := Lib.hid hs
  have H1 := Lib.hid hs'
  have HR := Lib.hid hr
  have HR' := Lib.hid hr'
  clear hs hr hs' hr'
  have hpl : ∀ (v0 v1 : Value) (w : World), NmAt w v0 a → NmAt w v1 b → Calls Try.prog 44 #[v0, v1] w fun e w' => ∃ r, e = .returned r ∧ NmAt w' r (minusP a b) ∧ Ext w w' := fun v0 v1 w k0 k1 => minusP_any w v0 a k0 v1 b k1 H0.out H1.out HR.out HR'.out
  have hpl' : ∀ (v0 v1 : Value) (w : World), NmAt w v0 b → NmAt w v1 a → Calls Try.prog 44 #[v0, v1] w fun e w' => ∃ r, e = .returned r ∧ NmAt w' r (minusP b a) ∧ Ext w w' := fun v0 v1 w k0 k1 => minusP_any w v0 b k0 v1 a k1 H1.out H0.out HR'.out HR.out
  go_wp2_with fail
  refine (hpl _ _ _ K0.out K1.out).mono ?_
  rintro e w1 ⟨r, rfl, hr1, hE1⟩
  have R1 := Lib.hid hr1
  have h0a := f0a _ hE1
  have h0b := f0b _ hE1
  have h1a := f1a _ hE1
  have h1b := f1b _ hE1
  have HX1 := Lib.hid hE1
  clear hr1 hE1
  go_wp2_with fail
  refine (leastP_any _ _ _ R1.out M1.out (minusP_inr a b)).mono ?_
  rintro e w2 ⟨rfl, hE2⟩
  have hE2 := HX1.out.trans hE2
  have m0a := f0a _ hE2
  have m0b := f0b _ hE2
  have m1a := f1a _ hE2
  have m1b := f1b _ hE2
  have HX2 := Lib.hid hE2
  clear hE2 h0a h0b h1a h1b
  generalize leastP (minusP a b) = p at *
  obtain ⟨pu, pb⟩ := p
  go_wp2_with fail
  refine (hpl' _ _ _ (K1.out.ext HX2.out) (K0.out.ext HX2.out)).mono ?_
  rintro e w3 ⟨r', rfl, hr3, hE3⟩
  have R3 := Lib.hid hr3
  have HX3 := Lib.hid (HX2.out.trans hE3)
  clear hr3 hE3 f0a f0b f1a f1b m0a m0b m1a m1b
  go_wp2_with fail
  refine (leastP_any _ _ _ R3.out M2.out (minusP_inr b a)).mono ?_
  rintro e w4 ⟨rfl, hE4⟩
  have HX4 := Lib.hid ((HE.out.trans HX3.out).trans hE4)
  clear hE4
  generalize leastP (minusP b a) = q at *
  obtain ⟨qu, qb⟩ := q
  simp only at L1 L2
  have hcon := fun W' => nearerP_any pu qu W' (by omega) (by omega) (by omega) (by omega)
  have hc : Hid (cmpL (pu, pb) (qu, qb) = if !pb && !qb then 0 else if !qb || (pb && nearerB pu qu) then -1 else 1) := Lib.hid rfl
  generalize nearerB pu qu = nb at *
  clear L1 L2
  cases pb <;> cases qb <;> cases nb
  all_goals
    go_wp2_with (go_at_call 57; refine (hcon _).mono ?_; rintro e w' ⟨rfl, rfl⟩)
    go_ret
    exact ⟨by rw [hdef.out, hc.out]; simp, HX4.out⟩

end Go.Proofs.Ytaianhhmmacblaa
