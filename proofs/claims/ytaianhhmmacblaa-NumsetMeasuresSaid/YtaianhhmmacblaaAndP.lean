import Derived.Test.YtaianhhmmacblaaMakeP
import Derived.Test.YtaianhhmmacblaaCommon
import Derived.Test.YtaianhhmmacblaaRelV
/-
  The program's And.
-/
namespace Go.Proofs.Ytaianhhmmacblaa
open Go.RowKit

theorem two_store {w0 w : World} {g h : Nat} (hb : BlkN w g (.slice none 0 0) (.slice none 0 0)) (hb' : BlkN w h (.slice none 0 0) (.slice none 0 0)) (hne : g ≠ h) (hE : Ext w0 w) (hg : w0.heap.size ≤ g) (hh : w0.heap.size ≤ h) (x y x' y' : Value) :
    BlkN ((((w.setCell ⟨g, 0, none⟩ x).setCell ⟨g, 1, none⟩ y).setCell ⟨h, 0, none⟩ x').setCell ⟨h, 1, none⟩ y') g x y ∧
    BlkN ((((w.setCell ⟨g, 0, none⟩ x).setCell ⟨g, 1, none⟩ y).setCell ⟨h, 0, none⟩ x').setCell ⟨h, 1, none⟩ y') h x' y' ∧
    Ext w0 ((((w.setCell ⟨g, 0, none⟩ x).setCell ⟨g, 1, none⟩ y).setCell ⟨h, 0, none⟩ x').setCell ⟨h, 1, none⟩ y') ∧
    (∀ A l, SlAt w w.heap.size A l → SlAt ((((w.setCell ⟨g, 0, none⟩ x).setCell ⟨g, 1, none⟩ y).setCell ⟨h, 0, none⟩ x').setCell ⟨h, 1, none⟩ y') ((((w.setCell ⟨g, 0, none⟩ x).setCell ⟨g, 1, none⟩ y).setCell ⟨h, 0, none⟩ x').setCell ⟨h, 1, none⟩ y').heap.size A l) := by
  have k1 := hb.set0 x
  have k2 := k1.set1 y
  have j2 := (hb'.far (p := ⟨g, 0, none⟩) (Ne.symm hne) x).far (p := ⟨g, 1, none⟩) (Ne.symm hne) y
  have j3 := j2.set0 x'
  have j4 := j3.set1 y'
  refine ⟨(k2.far (p := ⟨h, 0, none⟩) hne x').far (p := ⟨h, 1, none⟩) hne y', j4, (((hE.setCell hg _).setCell hg _).setCell hh _).setCell hh _, fun A l hA => ?_⟩
  exact ((((hA.setOther hb.cell0 (by simp) _).setOther k1.cell1 (by simp) _).setOther j2.cell0 (by simp) _).setOther j3.cell1 (by simp) _).mono (by simp [World.setCell])

set_option maxRecDepth 100000 in
set_option maxHeartbeats 1000000 in
theorem andP_any (w : World) (v0 : Value) (a : Nm) (h0 : NmAt w v0 a) (v1 : Value) (b : Nm) (h1 : NmAt w v1 b) (hs : Sz 1000 a) (hs' : Sz 1000 b) (hr : InR a.fracs) (hr' : InR b.fracs) :
    Calls Try.prog 29 #[v0, v1] w fun e w' => ∃ r, e = .returned r ∧ NmAt w' r (andP a b) ∧ Ext w w' := by
  have g0 := h0
  obtain ⟨A0, c0, B0, e0, rfl, x0, y0⟩ := g0
  have g1 := h1
  obtain ⟨A1, c1, B1, e1, rfl, x1, y1⟩ := g1
  have b0 : BlkN (((w.alloc (.cells #[.slice A0 a.ints.length c0, .slice B0 a.fracs.length e0] 24)).alloc (.cells #[.slice A1 b.ints.length c1, .slice B1 b.fracs.length e1] 24)).alloc (.cells #[.slice none 0 0, .slice none 0 0] 24)) w.heap.size (.slice A0 a.ints.length c0) (.slice B0 a.fracs.length e0) := by simpa using ((BlkN.new w (.slice A0 a.ints.length c0) (.slice B0 a.fracs.length e0)).alloc _).alloc _
  have b1 : BlkN (((w.alloc (.cells #[.slice A0 a.ints.length c0, .slice B0 a.fracs.length e0] 24)).alloc (.cells #[.slice A1 b.ints.length c1, .slice B1 b.fracs.length e1] 24)).alloc (.cells #[.slice none 0 0, .slice none 0 0] 24)) (w.heap.size + 1) (.slice A1 b.ints.length c1) (.slice B1 b.fracs.length e1) := by simpa using (BlkN.new (w.alloc (.cells #[.slice A0 a.ints.length c0, .slice B0 a.fracs.length e0] 24)) (.slice A1 b.ints.length c1) (.slice B1 b.fracs.length e1)).alloc _
  have br : BlkN (((w.alloc (.cells #[.slice A0 a.ints.length c0, .slice B0 a.fracs.length e0] 24)).alloc (.cells #[.slice A1 b.ints.length c1, .slice B1 b.fracs.length e1] 24)).alloc (.cells #[.slice none 0 0, .slice none 0 0] 24)) (w.heap.size + 2) (.slice none 0 0) (.slice none 0 0) := by simpa using BlkN.new ((w.alloc (.cells #[.slice A0 a.ints.length c0, .slice B0 a.fracs.length e0] 24)).alloc (.cells #[.slice A1 b.ints.length c1, .slice B1 b.fracs.length e1] 24)) (.slice none 0 0) (.slice none 0 0)
  have hEW : Ext w (((w.alloc (.cells #[.slice A0 a.ints.length c0, .slice B0 a.fracs.length e0] 24)).alloc (.cells #[.slice A1 b.ints.length c1, .slice B1 b.fracs.length e1] 24)).alloc (.cells #[.slice none 0 0, .slice none 0 0] 24)) := (((Ext.refl w).alloc _).alloc _).alloc _
  have k0 := h0.ext hEW
  have k1 := h1.ext hEW
  have f0a := fun w' (h : Ext (((w.alloc (.cells #[.slice A0 a.ints.length c0, .slice B0 a.fracs.length e0] 24)).alloc (.cells #[.slice A1 b.ints.length c1, .slice B1 b.fracs.length e1] 24)).alloc (.cells #[.slice none 0 0, .slice none 0 0] 24)) w') => (b0.ext h).cell0
  have f0b := fun w' (h : Ext (((w.alloc (.cells #[.slice A0 a.ints.length c0, .slice B0 a.fracs.length e0] 24)).alloc (.cells #[.slice A1 b.ints.length c1, .slice B1 b.fracs.length e1] 24)).alloc (.cells #[.slice none 0 0, .slice none 0 0] 24)) w') => (b0.ext h).cell1
  have f1a := fun w' (h : Ext (((w.alloc (.cells #[.slice A0 a.ints.length c0, .slice B0 a.fracs.length e0] 24)).alloc (.cells #[.slice A1 b.ints.length c1, .slice B1 b.fracs.length e1] 24)).alloc (.cells #[.slice none 0 0, .slice none 0 0] 24)) w') => (b1.ext h).cell0
  have f1b := fun w' (h : Ext (((w.alloc (.cells #[.slice A0 a.ints.length c0, .slice B0 a.fracs.length e0] 24)).alloc (.cells #[.slice A1 b.ints.length c1, .slice B1 b.fracs.length e1] 24)).alloc (.cells #[.slice none 0 0, .slice none 0 0] 24)) w') => (b1.ext h).cell1
  have K0 := Lib.hid k0
  have K1 := Lib.hid k1
  have si0 : SpAt (((w.alloc (.cells #[.slice A0 a.ints.length c0, .slice B0 a.fracs.length e0] 24)).alloc (.cells #[.slice A1 b.ints.length c1, .slice B1 b.fracs.length e1] 24)).alloc (.cells #[.slice none 0 0, .slice none 0 0] 24)) (.slice A0 a.ints.length c0) a.ints := ⟨A0, c0, rfl, x0.ext hEW⟩
  have sf0 : SpAt (((w.alloc (.cells #[.slice A0 a.ints.length c0, .slice B0 a.fracs.length e0] 24)).alloc (.cells #[.slice A1 b.ints.length c1, .slice B1 b.fracs.length e1] 24)).alloc (.cells #[.slice none 0 0, .slice none 0 0] 24)) (.slice B0 a.fracs.length e0) a.fracs := ⟨B0, e0, rfl, y0.ext hEW⟩
  have SI0 := Lib.hid si0
  have SF0 := Lib.hid sf0
  clear si0 sf0
  have si1 : SpAt (((w.alloc (.cells #[.slice A0 a.ints.length c0, .slice B0 a.fracs.length e0] 24)).alloc (.cells #[.slice A1 b.ints.length c1, .slice B1 b.fracs.length e1] 24)).alloc (.cells #[.slice none 0 0, .slice none 0 0] 24)) (.slice A1 b.ints.length c1) b.ints := ⟨A1, c1, rfl, x1.ext hEW⟩
  have sf1 : SpAt (((w.alloc (.cells #[.slice A0 a.ints.length c0, .slice B0 a.fracs.length e0] 24)).alloc (.cells #[.slice A1 b.ints.length c1, .slice B1 b.fracs.length e1] 24)).alloc (.cells #[.slice none 0 0, .slice none 0 0] 24)) (.slice B1 b.fracs.length e1) b.fracs := ⟨B1, e1, rfl, y1.ext hEW⟩
  have SI1 := Lib.hid si1
  have SF1 := Lib.hid sf1
  clear si1 sf1
  have BR := Lib.hid br
  have HE := Lib.hid hEW
  clear hEW b0 h0 k0 x0 y0 b1 h1 k1 x1 y1 br
  go_enter Try.func29, Try.ntmps29
  go_wp2
  have hWs : ((((w.alloc (.cells #[.slice A0 a.ints.length c0, .slice B0 a.fracs.length e0] 24)).alloc (.cells #[.slice A1 b.ints.length c1, .slice B1 b.fracs.length e1] 24)).alloc (.cells #[.slice none 0 0, .slice none 0 0] 24))).heap.size = w.heap.size + 3 := by simp
  generalize hW : (((w.alloc (.cells #[.slice A0 a.ints.length c0, .slice B0 a.fracs.length e0] 24)).alloc (.cells #[.slice A1 b.ints.length c1, .slice B1 b.fracs.length e1] 24)).alloc (.cells #[.slice none 0 0, .slice none 0 0] 24)) = W at *
  clear hW
  refine wp_region_relV (V := Two 5 6) (E := Ext) (m := 6) (by kernel_rfl) rfl (by decide) rfl (by kernel_rfl) (by kernel_rfl) ((Ext.refl _).drawn _) Ext.refl (fun _ _ _ => Ext.trans) ?_ ?_
  · refine ⟨fun g hg => ?_, fun g hg => ?_, fun g hg => ?_⟩ <;> simp [undef] at hg
  simp only [List.take_succ_cons, List.take_zero]
  refine rel_anyV (fun v _ => v = .agg #[.slice A0 a.ints.length c0, .slice B0 a.fracs.length e0]) (fun _ _ _ h _ => h) ?_ ?_
  · intro act w' K' hE hV he hK
    simp [Oper.looksAt, Op.operands] at he
    go_simp
    exact hK _ _ (Ext.refl _) rfl (hV.other (by decide) (by decide) _ (Ext.refl _))
  refine rel_anyV (fun v w => NmAt w v (makeR a)) (fun _ _ _ h hE => NmAt.ext h hE) ?_ ?_
  · intro act w' K' hE hV he hK
    simp [Oper.looksAt, Op.operands, Call.operands, upd] at he
    go_simp
    refine (makeP_any _ _ a (K0.out.ext hE) (hs.mono (by omega)) hr).mono ?_
    rintro e w'' ⟨r, rfl, hr, hE'⟩
    exact hK _ _ hE' hr (hV.other (by decide) (by decide) _ hE')
  refine rel_anyV (fun v _ => v = .agg #[.slice A1 b.ints.length c1, .slice B1 b.fracs.length e1]) (fun _ _ _ h _ => h) ?_ ?_
  · intro act w' K' hE hV he hK
    simp [Oper.looksAt, Op.operands, upd] at he
    go_simp
    exact hK _ _ (Ext.refl _) rfl (hV.other (by decide) (by decide) _ (Ext.refl _))
  refine rel_anyV (fun v w => NmAt w v (makeR b)) (fun _ _ _ h hE => NmAt.ext h hE) ?_ ?_
  · intro act w' K' hE hV he hK
    simp [Oper.looksAt, Op.operands, Call.operands, upd] at he
    go_simp
    refine (makeP_any _ _ b (K1.out.ext hE) (hs'.mono (by omega)) hr').mono ?_
    rintro e w'' ⟨r, rfl, hr, hE'⟩
    exact hK _ _ hE' hr (hV.other (by decide) (by decide) _ hE')
  refine rel_anyV (fun v w => ∃ g, v = .pointer (some ⟨g, 0, none⟩) ∧ W.heap.size ≤ g ∧ BlkN w g (.slice none 0 0) (.slice none 0 0)) (fun _ _ _ h hE => by obtain ⟨g, h1, h2, h3⟩ := h; exact ⟨g, h1, h2, h3.ext hE⟩) ?_ ?_
  · intro act w' K' hE hV he hK
    go_simp
    exact hK _ _ ((Ext.refl _).alloc _) ⟨_, rfl, hE.size, BlkN.new _ _ _⟩ (hV.first (by decide) _)
  refine rel_anyV (fun v w => ∃ g, v = .pointer (some ⟨g, 0, none⟩) ∧ W.heap.size ≤ g ∧ BlkN w g (.slice none 0 0) (.slice none 0 0)) (fun _ _ _ h hE => by obtain ⟨g, h1, h2, h3⟩ := h; exact ⟨g, h1, h2, h3.ext hE⟩) ?_ ?_
  · intro act w' K' hE hV he hK
    go_simp
    exact hK _ _ ((Ext.refl _).alloc _) ⟨_, rfl, hE.size, BlkN.new _ _ _⟩ (hV.second (by decide) _)
  refine relSeqV_nil fun w3 hE3 => ?_
  simp only [fin, List.nil_append, List.cons_append]
  rintro _ rfl v8 ⟨A8, c8, B8, e8, rfl, i8, f8⟩ _ rfl v10 ⟨A9, c9, B9, e9, rfl, i9, f9⟩ v5 ⟨g5, rfl, hg5, bb5⟩ v6 ⟨g6, rfl, hg6, bb6⟩ hTwo
  have hne : g5 ≠ g6 := by
    intro e
    subst e
    exact hTwo.2.2 g5 (by simp [Act.put]) (by simp [Act.put])
  have hfin := two_store bb5 bb6 hne hE3 hg5 hg6 (.slice A8 (makeR a).ints.length c8) (.slice B8 (makeR a).fracs.length e8) (.slice A9 (makeR b).ints.length c9) (.slice B9 (makeR b).fracs.length e9)
  have z0 := bb5.cell0
  have z1 := bb5.cell1
  have z2 := bb5.frozen0
  have z3 := fun u => (bb5.set0 u).frozen0 1
  have z4 := fun u => (bb5.set0 u).cell1
  have far6 := fun u u' => (bb6.far (p := ⟨g5, 0, none⟩) (Ne.symm hne) u).far (p := ⟨g5, 1, none⟩) (Ne.symm hne) u'
  have y0 := fun u u' => (far6 u u').cell0
  have y2 := fun u u' => (far6 u u').frozen0 0
  have y3 := fun u u' u'' => ((far6 u u').set0 u'').frozen0 1
  have y4 := fun u u' u'' => ((far6 u u').set0 u'').cell1
  obtain ⟨n1, n2, n3, n4⟩ := hfin
  have I8 : Hid (SpAt _ (.slice A8 (makeR a).ints.length c8) (makeR a).ints) := Lib.hid ⟨A8, c8, rfl, n4 _ _ i8⟩
  have F8 : Hid (SpAt _ (.slice B8 (makeR a).fracs.length e8) (makeR a).fracs) := Lib.hid ⟨B8, e8, rfl, n4 _ _ f8⟩
  have I9 : Hid (SpAt _ (.slice A9 (makeR b).ints.length c9) (makeR b).ints) := Lib.hid ⟨A9, c9, rfl, n4 _ _ i9⟩
  have F9 : Hid (SpAt _ (.slice B9 (makeR b).fracs.length e9) (makeR b).fracs) := Lib.hid ⟨B9, e9, rfl, n4 _ _ f9⟩
  have N1 := Lib.hid n1
  have N2 := Lib.hid n2
  have N3 := Lib.hid n3
  have szm := makeR_sz hs
  have szm' := makeR_sz hs'
  have bda := makeR_bddF a
  have bdb := makeR_bddF b
  clear n1 n2 n3 n4 i8 f8 i9 f9 hTwo far6 bb5 bb6 f0a f0b f1a f1b hne
  simp only [Act.put]
  simp
  simp [tailFrom]
  go_wp2_with fail
  obtain ⟨X, hX⟩ : ∃ X, X = ((((w3.setCell ⟨g5, 0, none⟩ (.slice A8 (makeR a).ints.length c8)).setCell ⟨g5, 1, none⟩ (.slice B8 (makeR a).fracs.length e8)).setCell ⟨g6, 0, none⟩ (.slice A9 (makeR b).ints.length c9)).setCell ⟨g6, 1, none⟩ (.slice B9 (makeR b).fracs.length e9)) := ⟨_, rfl⟩
  rw [← hX] at I8 F8 I9 F9 N1 N2 N3
  (try apply_assumption)
  (try go_wp2_with fail)
  rw [← hX]
  clear hX z0 z1 z2 z3 z4 y0 y2 y3 y4
  have f5a := fun w' (h : Ext X w') => (N1.out.ext h).cell0
  have f5b := fun w' (h : Ext X w') => (N1.out.ext h).cell1
  have f6a := fun w' (h : Ext X w') => (N2.out.ext h).cell0
  have f6b := fun w' (h : Ext X w') => (N2.out.ext h).cell1
  refine wp_region_rel (E := Ext) (m := 12) (by kernel_rfl) rfl (by decide) rfl (by kernel_rfl) (by kernel_rfl) ((Ext.refl _).drawn _) Ext.refl (fun _ _ _ => Ext.trans) ?_
  simp only [List.take_succ_cons, List.take_zero]
  apply rel_pure
  · intro act w' K' hE he hK
    simp [Oper.looksAt, Op.operands] at he
    go_simp
    exact hK _ rfl
  apply rel_pure
  · intro act w' K' hE he hK
    simp [Oper.looksAt, Op.operands, upd] at he
    go_simp
    exact hK _ rfl
  apply rel_pure
  · intro act w' K' hE he hK
    simp [Oper.looksAt, Op.operands, upd] at he
    go_simp
    exact hK _ rfl
  apply rel_pure
  · intro act w' K' hE he hK
    simp [Oper.looksAt, Op.operands, upd] at he
    go_simp
    exact hK _ rfl
  refine rel_any (fun v w => SpAt w v (commonL (makeR a).ints (makeR b).ints)) (fun _ _ _ h hE => SpAt.ext h hE) ?_ ?_
  · intro act w' K' hE he hK
    simp [Oper.looksAt, Op.operands, Call.operands, upd] at he
    go_simp
    refine (common_any _ _ _ (makeR a).ints (makeR b).ints (I8.out.ext hE) (I9.out.ext hE) (by have := szm.1; omega) (by have := szm'.1; omega)).mono ?_
    rintro e w'' ⟨r, rfl, hr, hE'⟩
    exact hK _ _ hE' hr
  apply rel_pure
  · intro act w' K' hE he hK
    simp [Oper.looksAt, Op.operands, upd] at he
    go_simp
    exact hK _ rfl
  apply rel_pure
  · intro act w' K' hE he hK
    simp [Oper.looksAt, Op.operands, upd] at he
    go_simp
    exact hK _ rfl
  apply rel_pure
  · intro act w' K' hE he hK
    simp [Oper.looksAt, Op.operands, upd] at he
    go_simp
    exact hK _ rfl
  apply rel_pure
  · intro act w' K' hE he hK
    simp [Oper.looksAt, Op.operands, upd] at he
    go_simp
    exact hK _ rfl
  refine rel_any (fun v w => SpAt w v (commonL (makeR a).fracs (makeR b).fracs)) (fun _ _ _ h hE => SpAt.ext h hE) ?_ ?_
  · intro act w' K' hE he hK
    simp [Oper.looksAt, Op.operands, Call.operands, upd] at he
    go_simp
    refine (common_any _ _ _ (makeR a).fracs (makeR b).fracs (F8.out.ext hE) (F9.out.ext hE) (by have := szm.2; omega) (by have := szm'.2; omega)).mono ?_
    rintro e w'' ⟨r, rfl, hr, hE'⟩
    exact hK _ _ hE' hr
  refine rel_any (fun v w => NmAt w v ⟨commonL (makeR a).ints (makeR b).ints, commonL (makeR a).fracs (makeR b).fracs⟩) (fun _ _ _ h hE => NmAt.ext h hE) ?_ ?_
  · intro act w' K' hE he hK
    simp [Oper.looksAt, Op.operands, upd] at he
    obtain ⟨⟨P1, p1, q1, r1⟩, ⟨P2, p2, q2, r2⟩⟩ := he
    go_simp
    exact hK _ _ (Ext.refl _) ⟨P1, p1, P2, p2, by simp, r1, r2⟩
  refine rel_any (fun v w => NmAt w v (makeR ⟨commonL (makeR a).ints (makeR b).ints, commonL (makeR a).fracs (makeR b).fracs⟩)) (fun _ _ _ h hE => NmAt.ext h hE) ?_ ?_
  · intro act w' K' hE he hK
    simp [Oper.looksAt, Op.operands, Call.operands, upd] at he
    go_simp
    refine (makeP_any _ _ ⟨commonL (makeR a).ints (makeR b).ints, commonL (makeR a).fracs (makeR b).fracs⟩ he ⟨Nat.le_trans (commonL_len _ _) (Nat.le_trans (Nat.mul_le_mul szm.1 szm'.1) (by omega)), Nat.le_trans (commonL_len _ _) (Nat.le_trans (Nat.mul_le_mul szm.2 szm'.2) (by omega))⟩ (InR.of_bdd (commonL_bdd bda bdb))).mono ?_
    rintro e w'' ⟨r, rfl, hr, hE'⟩
    exact hK _ _ hE' hr
  refine relSeq_nil fun w9 hE9 => ?_
  simp only [fin, List.nil_append, List.cons_append]
  rintro _ rfl _ rfl _ rfl _ rfl q4 u4 _ rfl _ rfl _ rfl _ rfl q9 u9 q10 u10 q11 u11
  have hE0 := HE.out.trans N3.out
  obtain ⟨Ar, cr, Ar', cr', rfl, hr1, hr2⟩ := u11
  have hb3 := BR.out.ext (N3.out.trans hE9)
  have hfin := nm_store (c := cr) (c' := cr') hb3 hr1 hr2 (hE0.trans hE9) (by omega)
  have z0 := hb3.cell0
  have z1 := hb3.cell1
  have z2 := hb3.frozen0
  have z3 := fun u => (hb3.set0 u).frozen0 1
  have z4 := fun u => (hb3.set0 u).cell1
  obtain ⟨n1, n2, n3, n4⟩ := hfin
  have NN1 := Lib.hid n1
  have NN2 := Lib.hid n2
  clear n1 n2 hE0 hr1 hr2 hE9 hb3 u4 u9 u10 f5a f5b f6a f6b
  simp only [Act.put]
  simp
  go_wp2
  (try apply_assumption)
  (try go_wp2)
  exact bodyPost_ret (v := .agg #[.slice Ar (makeR ⟨commonL (makeR a).ints (makeR b).ints, commonL (makeR a).fracs (makeR b).fracs⟩).ints.length cr, .slice Ar' (makeR ⟨commonL (makeR a).ints (makeR b).ints, commonL (makeR a).fracs (makeR b).fracs⟩).fracs.length cr']) (by simp [results, Try.results29, go_sem, n3, n4]) rfl ⟨_, rfl, NN1.out, NN2.out⟩

end Go.Proofs.Ytaianhhmmacblaa
