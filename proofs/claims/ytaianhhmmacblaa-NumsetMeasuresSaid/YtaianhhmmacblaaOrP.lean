import Derived.Test.YtaianhhmmacblaaAndP
import Derived.Test.YtaianhhmmacblaaConcat
/-
  The program's Or, Valid, empty.
-/
namespace Go.Proofs.Ytaianhhmmacblaa
open Go.RowKit

theorem NmAt.spI {w : World} {x y : Value} {d : Nm} (h : NmAt w (.agg #[x, y]) d) : SpAt w x d.ints := by
  obtain ⟨A, c, A', c', e, h1, h2⟩ := h
  injection e with e
  simp at e
  obtain ⟨rfl, rfl⟩ := e
  exact ⟨A, c, rfl, h1⟩
theorem NmAt.spF {w : World} {x y : Value} {d : Nm} (h : NmAt w (.agg #[x, y]) d) : SpAt w y d.fracs := by
  obtain ⟨A, c, A', c', e, h1, h2⟩ := h
  injection e with e
  simp at e
  obtain ⟨rfl, rfl⟩ := e
  exact ⟨A', c', rfl, h2⟩
/-- a slice of two slices -/
def Pair2 (x y : Value) : Spec := fun v w => ∃ g, v = .slice (some ⟨g, 0, none⟩) 2 2 ∧ w.cell? ⟨g, 0, none⟩ = some x ∧ w.cell? ⟨g, 1, none⟩ = some y ∧ g < w.heap.size
theorem Pair2.stable (x y : Value) : ∀ v w w', Pair2 x y v w → Ext w w' → Pair2 x y v w' := fun _ _ _ ⟨g, e, h1, h2, h3⟩ hE =>
  ⟨g, e, (hE.cell ⟨g, 0, none⟩ h3).trans h1, (hE.cell ⟨g, 1, none⟩ h3).trans h2, Nat.lt_of_lt_of_le h3 hE.size⟩

set_option maxRecDepth 100000 in
set_option maxHeartbeats 1000000 in
theorem orP_any (w : World) (v0 : Value) (a : Nm) (h0 : NmAt w v0 a) (v1 : Value) (b : Nm) (h1 : NmAt w v1 b) (hs : Sz 500000 a) (hs' : Sz 500000 b) (hr : InR a.fracs) (hr' : InR b.fracs) :
    Calls Try.prog 28 #[v0, v1] w fun e w' => ∃ r, e = .returned r ∧ NmAt w' r (orR a b) ∧ Ext w w' := by
  have g0 := h0
  obtain ⟨A0, c0, B0, e0, rfl, x0, y0⟩ := g0
  have g1 := h1
  obtain ⟨A1, c1, B1, e1, rfl, x1, y1⟩ := g1
  go_enter Try.func28, Try.ntmps28
  go_wp2
  obtain ⟨W, hW⟩ : ∃ W, W = (((w.alloc (.cells #[.slice A0 a.ints.length c0, .slice B0 a.fracs.length e0] 24)).alloc (.cells #[.slice A1 b.ints.length c1, .slice B1 b.fracs.length e1] 24)).alloc (.cells #[.slice none 0 0, .slice none 0 0] 24)) := ⟨_, rfl⟩
  have b0 : BlkN W w.heap.size (.slice A0 a.ints.length c0) (.slice B0 a.fracs.length e0) := by rw [hW]; simpa using ((BlkN.new w (.slice A0 a.ints.length c0) (.slice B0 a.fracs.length e0)).alloc _).alloc _
  have b1 : BlkN W (w.heap.size + 1) (.slice A1 b.ints.length c1) (.slice B1 b.fracs.length e1) := by rw [hW]; simpa using (BlkN.new (w.alloc (.cells #[.slice A0 a.ints.length c0, .slice B0 a.fracs.length e0] 24)) (.slice A1 b.ints.length c1) (.slice B1 b.fracs.length e1)).alloc _
  have br : BlkN W (w.heap.size + 2) (.slice none 0 0) (.slice none 0 0) := by rw [hW]; simpa using BlkN.new ((w.alloc (.cells #[.slice A0 a.ints.length c0, .slice B0 a.fracs.length e0] 24)).alloc (.cells #[.slice A1 b.ints.length c1, .slice B1 b.fracs.length e1] 24)) (.slice none 0 0) (.slice none 0 0)
  have hEW : Ext w W := by rw [hW]; exact (((Ext.refl w).alloc _).alloc _).alloc _
  have k0 := h0.ext hEW
  have k1 := h1.ext hEW
  rw [← hW]
  have f0a := fun w' (h : Ext W w') => (b0.ext h).cell0
  have f0b := fun w' (h : Ext W w') => (b0.ext h).cell1
  have f1a := fun w' (h : Ext W w') => (b1.ext h).cell0
  have f1b := fun w' (h : Ext W w') => (b1.ext h).cell1
  have K0 := Lib.hid k0
  have K1 := Lib.hid k1
  have BR := Lib.hid br
  have HE := Lib.hid hEW
  clear hW hEW b0 h0 k0 x0 y0 b1 h1 k1 x1 y1 br
  refine wp_region_rel (E := Ext) (m := 14) (by kernel_rfl) rfl (by decide) rfl (by kernel_rfl) (by kernel_rfl) ((Ext.refl _).drawn _) Ext.refl (fun _ _ _ => Ext.trans) ?_
  simp only [List.take_succ_cons, List.take_zero]
  apply rel_pure
  · intro act w' K' hE he hK
    simp [Oper.looksAt, Op.operands] at he
    go_simp
    exact hK _ rfl
  apply rel_pure
  · intro act w' K' hE he hK
    simp [Oper.looksAt, Op.operands, upd] at he
    go_simp
    exact hK _ rfl
  apply rel_pure
  · intro act w' K' hE he hK
    simp [Oper.looksAt, Op.operands, upd] at he
    go_simp
    exact hK _ rfl
  apply rel_pure
  · intro act w' K' hE he hK
    simp [Oper.looksAt, Op.operands, upd] at he
    go_simp
    exact hK _ rfl
  refine rel_any (Pair2 (.slice A0 a.ints.length c0) (.slice A1 b.ints.length c1)) (Pair2.stable _ _) ?_ ?_
  · intro act w' K' hE he hK
    simp [Oper.looksAt, Op.operands, upd] at he
    go_simp
    exact hK _ _ ((Ext.refl _).alloc _) ⟨_, rfl, by simp, by simp, by simp⟩
  refine rel_any (fun v w => SpAt w v (a.ints ++ b.ints)) (fun _ _ _ h hE => SpAt.ext h hE) ?_ ?_
  · intro act w' K' hE he hK
    simp [Oper.looksAt, Op.operands, Call.operands, upd] at he
    obtain ⟨g, e1, e2, e3, e4⟩ := he
    go_simp
    (try simp only [e1])
    refine (concat_any _ g _ _ a.ints b.ints ((K0.out.ext hE).spI) ((K1.out.ext hE).spI) (by have := hs.1; omega) (by have := hs'.1; omega) e2 e3 e4).mono ?_
    rintro e w'' ⟨r, rfl, hr, hE'⟩
    exact hK _ _ hE' hr
  apply rel_pure
  · intro act w' K' hE he hK
    simp [Oper.looksAt, Op.operands, upd] at he
    go_simp
    exact hK _ rfl
  apply rel_pure
  · intro act w' K' hE he hK
    simp [Oper.looksAt, Op.operands, upd] at he
    go_simp
    exact hK _ rfl
  apply rel_pure
  · intro act w' K' hE he hK
    simp [Oper.looksAt, Op.operands, upd] at he
    go_simp
    exact hK _ rfl
  apply rel_pure
  · intro act w' K' hE he hK
    simp [Oper.looksAt, Op.operands, upd] at he
    go_simp
    exact hK _ rfl
  refine rel_any (Pair2 (.slice B0 a.fracs.length e0) (.slice B1 b.fracs.length e1)) (Pair2.stable _ _) ?_ ?_
  · intro act w' K' hE he hK
    simp [Oper.looksAt, Op.operands, upd] at he
    go_simp
    exact hK _ _ ((Ext.refl _).alloc _) ⟨_, rfl, by simp, by simp, by simp⟩
  refine rel_any (fun v w => SpAt w v (a.fracs ++ b.fracs)) (fun _ _ _ h hE => SpAt.ext h hE) ?_ ?_
  · intro act w' K' hE he hK
    simp [Oper.looksAt, Op.operands, Call.operands, upd] at he
    obtain ⟨g, e1, e2, e3, e4⟩ := he
    go_simp
    (try simp only [e1])
    refine (concat_any _ g _ _ a.fracs b.fracs ((K0.out.ext hE).spF) ((K1.out.ext hE).spF) (by have := hs.2; omega) (by have := hs'.2; omega) e2 e3 e4).mono ?_
    rintro e w'' ⟨r, rfl, hr, hE'⟩
    exact hK _ _ hE' hr
  refine rel_any (fun v w => NmAt w v ⟨a.ints ++ b.ints, a.fracs ++ b.fracs⟩) (fun _ _ _ h hE => NmAt.ext h hE) ?_ ?_
  · intro act w' K' hE he hK
    simp [Oper.looksAt, Op.operands, upd] at he
    obtain ⟨⟨P1, p1, q1, r1⟩, ⟨P2, p2, q2, r2⟩⟩ := he
    go_simp
    exact hK _ _ (Ext.refl _) ⟨P1, p1, P2, p2, by simp, r1, r2⟩
  refine rel_any (fun v w => NmAt w v (orR a b)) (fun _ _ _ h hE => NmAt.ext h hE) ?_ ?_
  · intro act w' K' hE he hK
    simp [Oper.looksAt, Op.operands, Call.operands, upd] at he
    go_simp
    refine (makeP_any _ _ ⟨a.ints ++ b.ints, a.fracs ++ b.fracs⟩ he ⟨by have := hs.1; have := hs'.1; simp; omega, by have := hs.2; have := hs'.2; simp; omega⟩ (hr.append hr')).mono ?_
    rintro e w'' ⟨r, rfl, hr, hE'⟩
    exact hK _ _ hE' hr
  refine relSeq_nil fun w3 hE3 => ?_
  simp only [fin, List.nil_append, List.cons_append]
  rintro _ rfl _ rfl _ rfl _ rfl q4 u4 q5 u5 _ rfl _ rfl _ rfl _ rfl q10 u10 q11 u11 q12 u12 q13 u13
  have br := BR.out
  have hE0 := HE.out
  obtain ⟨Ar, cr, Ar', cr', rfl, hr1, hr2⟩ := u13
  have hb3 := br.ext hE3
  have hfin := nm_store (c := cr) (c' := cr') hb3 hr1 hr2 (hE0.trans hE3) (by omega)
  have z0 := hb3.cell0
  have z1 := hb3.cell1
  have z2 := hb3.frozen0
  have z3 := fun u => (hb3.set0 u).frozen0 1
  have z4 := fun u => (hb3.set0 u).cell1
  obtain ⟨n1, n2, n3, n4⟩ := hfin
  have N1 := Lib.hid n1
  have N2 := Lib.hid n2
  clear n1 n2 br hE0 hr1 hr2 hE3
  simp only [Act.put]
  simp
  go_wp2
  (try apply_assumption)
  (try go_wp2)
  exact bodyPost_ret (v := .agg #[.slice Ar (orR a b).ints.length cr, .slice Ar' (orR a b).fracs.length cr']) (by simp [results, Try.results28, go_sem, n3, n4]) rfl ⟨_, rfl, N1.out, N2.out⟩

set_option maxRecDepth 100000 in
set_option maxHeartbeats 1000000 in
theorem validP_any' (w : World) (v0 : Value) (d : Nm) (h0 : NmAt w v0 d) (hs : Sz 1000000 d) (hr : InR d.fracs) :
    Calls Try.prog 35 #[v0] w fun e w' => e = .returned (.bool (validNR d)) ∧ Ext w w' := by
  have g0 := h0
  obtain ⟨A0, c0, B0, e0, rfl, x0, y0⟩ := g0
  go_enter Try.func35, Try.ntmps35
  go_wp2
  obtain ⟨W, hW⟩ : ∃ W, W = (w.alloc (.cells #[.slice A0 d.ints.length c0, .slice B0 d.fracs.length e0] 24)) := ⟨_, rfl⟩
  have b0 : BlkN W w.heap.size (.slice A0 d.ints.length c0) (.slice B0 d.fracs.length e0) := by rw [hW]; simpa using BlkN.new w (.slice A0 d.ints.length c0) (.slice B0 d.fracs.length e0)
  have hEW : Ext w W := by rw [hW]; exact (Ext.refl w).alloc _
  have k0 := h0.ext hEW
  rw [← hW]
  have f0a := fun w' (h : Ext W w') => (b0.ext h).cell0
  have f0b := fun w' (h : Ext W w') => (b0.ext h).cell1
  have K0 := Lib.hid k0
  have HE := Lib.hid hEW
  clear hW hEW b0 h0 k0 x0 y0
  refine wp_region_rel (E := Ext) (m := 4) (by kernel_rfl) rfl (by decide) rfl (by kernel_rfl) (by kernel_rfl) ((Ext.refl _).drawn _) Ext.refl (fun _ _ _ => Ext.trans) ?_
  simp only [List.take_succ_cons, List.take_zero]
  apply rel_pure
  · intro act w' K' hE he hK
    simp [Oper.looksAt, Op.operands] at he
    go_simp
    exact hK _ rfl
  apply rel_pure
  · intro act w' K' hE he hK
    simp [Oper.looksAt, Op.operands, upd] at he
    go_simp
    exact hK _ rfl
  refine rel_any (fun v w => NmAt w v (makeR d)) (fun _ _ _ h hE => NmAt.ext h hE) ?_ ?_
  · intro act w' K' hE he hK
    simp [Oper.looksAt, Op.operands, Call.operands, upd] at he
    go_simp
    refine (makeP_any _ _ d (K0.out.ext hE) hs hr).mono ?_
    rintro e w'' ⟨r, rfl, hr, hE'⟩
    exact hK _ _ hE' hr
  refine rel_any (fun v _ => v = .bool (validNR d)) (fun _ _ _ h _ => h) ?_ ?_
  · intro act w' K' hE he hK
    simp [Oper.looksAt, Op.operands, Call.operands, upd] at he
    go_simp
    (try simp only [he.1])
    refine (sameP_any _ _ d (K0.out.ext hE) _ (makeR d) he.2 (hs.mono (by omega)) ((makeR_sz hs).mono (by omega))).mono ?_
    rintro e w'' ⟨rfl, hE'⟩
    exact hK _ _ hE' rfl
  refine relSeq_nil fun w3 hE3 => ?_
  simp only [fin, List.nil_append, List.cons_append]
  rintro _ rfl _ rfl q2 u2 _ rfl
  have hE0 := HE.out
  have hE5 := hE0.trans hE3
  simp only [Act.put]
  simp
  go_wp2
  (try apply_assumption)
  (try go_wp2)
  go_ret
  exact ⟨rfl, hE5⟩

set_option maxRecDepth 100000 in
set_option maxHeartbeats 1000000 in
theorem emptyP_any (w : World) (v0 : Value) (d : Nm) (h0 : NmAt w v0 d) (hs : Sz 1000000 d) (hr : InR d.fracs) :
    Calls Try.prog 74 #[v0] w fun e w' => e = .returned (.bool (sameN (makeR d) ⟨[], []⟩)) ∧ Ext w w' := by
  have g0 := h0
  obtain ⟨A0, c0, B0, e0, rfl, x0, y0⟩ := g0
  have b0 : BlkN (w.alloc (.cells #[.slice A0 d.ints.length c0, .slice B0 d.fracs.length e0] 24)) w.heap.size (.slice A0 d.ints.length c0) (.slice B0 d.fracs.length e0) := by simpa using BlkN.new w (.slice A0 d.ints.length c0) (.slice B0 d.fracs.length e0)
  have hEW : Ext w (w.alloc (.cells #[.slice A0 d.ints.length c0, .slice B0 d.fracs.length e0] 24)) := (Ext.refl w).alloc _
  have k0 := h0.ext hEW
  have f0a := fun w' (h : Ext (w.alloc (.cells #[.slice A0 d.ints.length c0, .slice B0 d.fracs.length e0] 24)) w') => (b0.ext h).cell0
  have f0b := fun w' (h : Ext (w.alloc (.cells #[.slice A0 d.ints.length c0, .slice B0 d.fracs.length e0] 24)) w') => (b0.ext h).cell1
  have K0 := Lib.hid k0
  have si0 : SpAt (w.alloc (.cells #[.slice A0 d.ints.length c0, .slice B0 d.fracs.length e0] 24)) (.slice A0 d.ints.length c0) d.ints := ⟨A0, c0, rfl, x0.ext hEW⟩
  have sf0 : SpAt (w.alloc (.cells #[.slice A0 d.ints.length c0, .slice B0 d.fracs.length e0] 24)) (.slice B0 d.fracs.length e0) d.fracs := ⟨B0, e0, rfl, y0.ext hEW⟩
  have SI0 := Lib.hid si0
  have SF0 := Lib.hid sf0
  clear si0 sf0
  have HE := Lib.hid hEW
  clear hEW b0 h0 k0 x0 y0
  go_enter Try.func74, Try.ntmps74
  go_wp2_with fail
  refine (makeP_any _ _ d K0.out hs hr).mono ?_
  rintro e w1 ⟨r, rfl, hr1, hE1⟩
  have HR := Lib.hid hr1
  clear hr1
  go_wp2_with fail
  refine (sameP_any _ _ (makeR d) HR.out _ ⟨[], []⟩ ⟨none, 0, none, 0, rfl, SlAt.nil _ _ _, SlAt.nil _ _ _⟩ ((makeR_sz hs).mono (by omega)) ⟨by simp, by simp⟩).mono ?_
  rintro e w2 ⟨rfl, hE2⟩
  have HF := Lib.hid ((HE.out.trans hE1).trans hE2)
  clear hE1 hE2
  go_wp2
  go_ret
  exact ⟨rfl, HF.out⟩

end Go.Proofs.Ytaianhhmmacblaa
