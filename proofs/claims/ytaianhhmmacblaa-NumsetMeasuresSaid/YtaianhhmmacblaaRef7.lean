import Derived.Test.YtaianhhmmacblaaRef4
/-
  The reference's And, Minus, Subset, All, Ints.
-/
namespace Go.Proofs.Ytaianhhmmacblaa
open Go.RowKit

set_option maxRecDepth 100000 in
set_option maxHeartbeats 1000000 in
theorem andR_any (w : World) (v0 : Value) (a : Nm) (h0 : NmAt w v0 a) (v1 : Value) (b : Nm) (h1 : NmAt w v1 b) (hs : Sz 200000 a) (hs' : Sz 200000 b) :
    Calls Try.prog 41 #[v0, v1] w fun e w' => ∃ r, e = .returned r ∧ NmAt w' r (andR a b) ∧ Ext w w' := by
  have g0 := h0
  obtain ⟨A0, c0, B0, e0, rfl, x0, y0⟩ := g0
  have g1 := h1
  obtain ⟨A1, c1, B1, e1, rfl, x1, y1⟩ := g1
  go_enter Try.func41, Try.ntmps41
  go_wp2
  obtain ⟨W, hW⟩ : ∃ W, W = (((w.alloc (.cells #[.slice A0 a.ints.length c0, .slice B0 a.fracs.length e0] 24)).alloc (.cells #[.slice A1 b.ints.length c1, .slice B1 b.fracs.length e1] 24)).alloc (.cells #[.slice none 0 0, .slice none 0 0] 24)) := ⟨_, rfl⟩
  have b0 : BlkN W w.heap.size (.slice A0 a.ints.length c0) (.slice B0 a.fracs.length e0) := by rw [hW]; simpa using ((BlkN.new w (.slice A0 a.ints.length c0) (.slice B0 a.fracs.length e0)).alloc _).alloc _
  have b1 : BlkN W (w.heap.size + 1) (.slice A1 b.ints.length c1) (.slice B1 b.fracs.length e1) := by rw [hW]; simpa using (BlkN.new (w.alloc (.cells #[.slice A0 a.ints.length c0, .slice B0 a.fracs.length e0] 24)) (.slice A1 b.ints.length c1) (.slice B1 b.fracs.length e1)).alloc _
  have br : BlkN W (w.heap.size + 2) (.slice none 0 0) (.slice none 0 0) := by rw [hW]; simpa using BlkN.new ((w.alloc (.cells #[.slice A0 a.ints.length c0, .slice B0 a.fracs.length e0] 24)).alloc (.cells #[.slice A1 b.ints.length c1, .slice B1 b.fracs.length e1] 24)) (.slice none 0 0) (.slice none 0 0)
  have hEW : Ext w W := by rw [hW]; exact (((Ext.refl w).alloc _).alloc _).alloc _
  have k0 := h0.ext hEW
  have k1 := h1.ext hEW
  rw [← hW]
  have f0a := fun w' (h : Ext W w') => (b0.ext h).cell0
  have f0b := fun w' (h : Ext W w') => (b0.ext h).cell1
  have f1a := fun w' (h : Ext W w') => (b1.ext h).cell0
  have f1b := fun w' (h : Ext W w') => (b1.ext h).cell1
  have K0 := Lib.hid k0
  have K1 := Lib.hid k1
  have BR := Lib.hid br
  have HE := Lib.hid hEW
  clear hW hEW b0 h0 k0 x0 y0 b1 h1 k1 x1 y1 br
  refine wp_region_rel (E := Ext) (m := 6) (by kernel_rfl) rfl (by decide) rfl (by kernel_rfl) (by kernel_rfl) ((Ext.refl _).drawn _) Ext.refl (fun _ _ _ => Ext.trans) ?_
  simp only [List.take_succ_cons, List.take_zero]
  apply rel_pure
  · intro act w' K' hE he hK
    simp [Oper.looksAt, Op.operands] at he
    go_simp
    exact hK _ rfl
  refine rel_any (fun v w => NmAt w v (notR a)) (fun _ _ _ h hE => NmAt.ext h hE) ?_ ?_
  · intro act w' K' hE he hK
    simp [Oper.looksAt, Op.operands, Call.operands, upd] at he
    go_simp
    refine (notR_any _ _ a (K0.out.ext hE) (hs.mono (by omega))).mono ?_
    rintro e w'' ⟨r, rfl, hr, hE'⟩
    exact hK _ _ hE' hr
  apply rel_pure
  · intro act w' K' hE he hK
    simp [Oper.looksAt, Op.operands, upd] at he
    go_simp
    exact hK _ rfl
  refine rel_any (fun v w => NmAt w v (notR b)) (fun _ _ _ h hE => NmAt.ext h hE) ?_ ?_
  · intro act w' K' hE he hK
    simp [Oper.looksAt, Op.operands, Call.operands, upd] at he
    go_simp
    refine (notR_any _ _ b (K1.out.ext hE) (hs'.mono (by omega))).mono ?_
    rintro e w'' ⟨r, rfl, hr, hE'⟩
    exact hK _ _ hE' hr
  refine rel_any (fun v w => NmAt w v (orR (notR a) (notR b))) (fun _ _ _ h hE => NmAt.ext h hE) ?_ ?_
  · intro act w' K' hE he hK
    simp [Oper.looksAt, Op.operands, Call.operands, upd] at he
    go_simp
    refine (orR_any _ _ (notR a) he.1 _ (notR b) he.2 ((notR_sz hs).mono (by omega)) ((notR_sz hs').mono (by omega))).mono ?_
    rintro e w'' ⟨r, rfl, hr, hE'⟩
    exact hK _ _ hE' hr
  refine rel_any (fun v w => NmAt w v (andR a b)) (fun _ _ _ h hE => NmAt.ext h hE) ?_ ?_
  · intro act w' K' hE he hK
    simp [Oper.looksAt, Op.operands, Call.operands, upd] at he
    go_simp
    refine (notR_any _ _ (orR (notR a) (notR b)) he ((orR_sz (notR_sz hs) (notR_sz hs')).mono (by omega))).mono ?_
    rintro e w'' ⟨r, rfl, hr, hE'⟩
    exact hK _ _ hE' hr
  refine relSeq_nil fun w3 hE3 => ?_
  simp only [fin, List.nil_append, List.cons_append]
  rintro _ rfl q1 u1 _ rfl q3 u3 q4 u4 q5 u5
  have br := BR.out
  have hE0 := HE.out
  obtain ⟨Ar, cr, Ar', cr', rfl, hr1, hr2⟩ := u5
  have hb3 := br.ext hE3
  have hfin := nm_store (c := cr) (c' := cr') hb3 hr1 hr2 (hE0.trans hE3) (by omega)
  have z0 := hb3.cell0
  have z1 := hb3.cell1
  have z2 := hb3.frozen0
  have z3 := fun u => (hb3.set0 u).frozen0 1
  have z4 := fun u => (hb3.set0 u).cell1
  obtain ⟨n1, n2, n3, n4⟩ := hfin
  have N1 := Lib.hid n1
  have N2 := Lib.hid n2
  clear n1 n2 br hE0 hr1 hr2 hE3
  simp only [Act.put]
  simp
  go_wp2
  (try apply_assumption)
  (try go_wp2)
  exact bodyPost_ret (v := .agg #[.slice Ar (andR a b).ints.length cr, .slice Ar' (andR a b).fracs.length cr']) (by simp [results, Try.results41, go_sem, n3, n4]) rfl ⟨_, rfl, N1.out, N2.out⟩

set_option maxRecDepth 100000 in
set_option maxHeartbeats 1000000 in
theorem minusR_any (w : World) (v0 : Value) (a : Nm) (h0 : NmAt w v0 a) (v1 : Value) (b : Nm) (h1 : NmAt w v1 b) (hs : Sz 100000 a) (hs' : Sz 100000 b) :
    Calls Try.prog 45 #[v0, v1] w fun e w' => ∃ r, e = .returned r ∧ NmAt w' r (minusR a b) ∧ Ext w w' := by
  have g0 := h0
  obtain ⟨A0, c0, B0, e0, rfl, x0, y0⟩ := g0
  have g1 := h1
  obtain ⟨A1, c1, B1, e1, rfl, x1, y1⟩ := g1
  go_enter Try.func45, Try.ntmps45
  go_wp2
  obtain ⟨W, hW⟩ : ∃ W, W = (((w.alloc (.cells #[.slice A0 a.ints.length c0, .slice B0 a.fracs.length e0] 24)).alloc (.cells #[.slice A1 b.ints.length c1, .slice B1 b.fracs.length e1] 24)).alloc (.cells #[.slice none 0 0, .slice none 0 0] 24)) := ⟨_, rfl⟩
  have b0 : BlkN W w.heap.size (.slice A0 a.ints.length c0) (.slice B0 a.fracs.length e0) := by rw [hW]; simpa using ((BlkN.new w (.slice A0 a.ints.length c0) (.slice B0 a.fracs.length e0)).alloc _).alloc _
  have b1 : BlkN W (w.heap.size + 1) (.slice A1 b.ints.length c1) (.slice B1 b.fracs.length e1) := by rw [hW]; simpa using (BlkN.new (w.alloc (.cells #[.slice A0 a.ints.length c0, .slice B0 a.fracs.length e0] 24)) (.slice A1 b.ints.length c1) (.slice B1 b.fracs.length e1)).alloc _
  have br : BlkN W (w.heap.size + 2) (.slice none 0 0) (.slice none 0 0) := by rw [hW]; simpa using BlkN.new ((w.alloc (.cells #[.slice A0 a.ints.length c0, .slice B0 a.fracs.length e0] 24)).alloc (.cells #[.slice A1 b.ints.length c1, .slice B1 b.fracs.length e1] 24)) (.slice none 0 0) (.slice none 0 0)
  have hEW : Ext w W := by rw [hW]; exact (((Ext.refl w).alloc _).alloc _).alloc _
  have k0 := h0.ext hEW
  have k1 := h1.ext hEW
  rw [← hW]
  have f0a := fun w' (h : Ext W w') => (b0.ext h).cell0
  have f0b := fun w' (h : Ext W w') => (b0.ext h).cell1
  have f1a := fun w' (h : Ext W w') => (b1.ext h).cell0
  have f1b := fun w' (h : Ext W w') => (b1.ext h).cell1
  have K0 := Lib.hid k0
  have K1 := Lib.hid k1
  have BR := Lib.hid br
  have HE := Lib.hid hEW
  clear hW hEW b0 h0 k0 x0 y0 b1 h1 k1 x1 y1 br
  refine wp_region_rel (E := Ext) (m := 4) (by kernel_rfl) rfl (by decide) rfl (by kernel_rfl) (by kernel_rfl) ((Ext.refl _).drawn _) Ext.refl (fun _ _ _ => Ext.trans) ?_
  simp only [List.take_succ_cons, List.take_zero]
  apply rel_pure
  · intro act w' K' hE he hK
    simp [Oper.looksAt, Op.operands] at he
    go_simp
    exact hK _ rfl
  apply rel_pure
  · intro act w' K' hE he hK
    simp [Oper.looksAt, Op.operands, upd] at he
    go_simp
    exact hK _ rfl
  refine rel_any (fun v w => NmAt w v (notR b)) (fun _ _ _ h hE => NmAt.ext h hE) ?_ ?_
  · intro act w' K' hE he hK
    simp [Oper.looksAt, Op.operands, Call.operands, upd] at he
    go_simp
    refine (notR_any _ _ b (K1.out.ext hE) (hs'.mono (by omega))).mono ?_
    rintro e w'' ⟨r, rfl, hr, hE'⟩
    exact hK _ _ hE' hr
  refine rel_any (fun v w => NmAt w v (minusR a b)) (fun _ _ _ h hE => NmAt.ext h hE) ?_ ?_
  · intro act w' K' hE he hK
    simp [Oper.looksAt, Op.operands, Call.operands, upd] at he
    go_simp
    refine (andR_any _ _ a (K0.out.ext hE) _ (notR b) he.2 (hs.mono (by omega)) ((notR_sz hs').mono (by omega))).mono ?_
    rintro e w'' ⟨r, rfl, hr, hE'⟩
    exact hK _ _ hE' hr
  refine relSeq_nil fun w3 hE3 => ?_
  simp only [fin, List.nil_append, List.cons_append]
  rintro _ rfl _ rfl q2 u2 q3 u3
  have br := BR.out
  have hE0 := HE.out
  obtain ⟨Ar, cr, Ar', cr', rfl, hr1, hr2⟩ := u3
  have hb3 := br.ext hE3
  have hfin := nm_store (c := cr) (c' := cr') hb3 hr1 hr2 (hE0.trans hE3) (by omega)
  have z0 := hb3.cell0
  have z1 := hb3.cell1
  have z2 := hb3.frozen0
  have z3 := fun u => (hb3.set0 u).frozen0 1
  have z4 := fun u => (hb3.set0 u).cell1
  obtain ⟨n1, n2, n3, n4⟩ := hfin
  have N1 := Lib.hid n1
  have N2 := Lib.hid n2
  clear n1 n2 br hE0 hr1 hr2 hE3
  simp only [Act.put]
  simp
  go_wp2
  (try apply_assumption)
  (try go_wp2)
  exact bodyPost_ret (v := .agg #[.slice Ar (minusR a b).ints.length cr, .slice Ar' (minusR a b).fracs.length cr']) (by simp [results, Try.results45, go_sem, n3, n4]) rfl ⟨_, rfl, N1.out, N2.out⟩

set_option maxRecDepth 100000 in
set_option maxHeartbeats 1000000 in
theorem emptyR_any (w : World) (v0 : Value) (d : Nm) (h0 : NmAt w v0 d) (hs : Sz 1000000 d) :
    Calls Try.prog 75 #[v0] w fun e w' => e = .returned (.bool (emptyR d)) ∧ Ext w w' := by
  have g0 := h0
  obtain ⟨A0, c0, B0, e0, rfl, x0, y0⟩ := g0
  have b0 : BlkN (w.alloc (.cells #[.slice A0 d.ints.length c0, .slice B0 d.fracs.length e0] 24)) w.heap.size (.slice A0 d.ints.length c0) (.slice B0 d.fracs.length e0) := by simpa using BlkN.new w (.slice A0 d.ints.length c0) (.slice B0 d.fracs.length e0)
  have hEW : Ext w (w.alloc (.cells #[.slice A0 d.ints.length c0, .slice B0 d.fracs.length e0] 24)) := (Ext.refl w).alloc _
  have k0 := h0.ext hEW
  have f0a := fun w' (h : Ext (w.alloc (.cells #[.slice A0 d.ints.length c0, .slice B0 d.fracs.length e0] 24)) w') => (b0.ext h).cell0
  have f0b := fun w' (h : Ext (w.alloc (.cells #[.slice A0 d.ints.length c0, .slice B0 d.fracs.length e0] 24)) w') => (b0.ext h).cell1
  have K0 := Lib.hid k0
  have si0 : SpAt (w.alloc (.cells #[.slice A0 d.ints.length c0, .slice B0 d.fracs.length e0] 24)) (.slice A0 d.ints.length c0) d.ints := ⟨A0, c0, rfl, x0.ext hEW⟩
  have sf0 : SpAt (w.alloc (.cells #[.slice A0 d.ints.length c0, .slice B0 d.fracs.length e0] 24)) (.slice B0 d.fracs.length e0) d.fracs := ⟨B0, e0, rfl, y0.ext hEW⟩
  have SI0 := Lib.hid si0
  have SF0 := Lib.hid sf0
  clear si0 sf0
  have HE := Lib.hid hEW
  clear hEW b0 h0 k0 x0 y0
  go_enter Try.func75, Try.ntmps75
  go_wp2_with fail
  refine (makeR_any _ _ d K0.out hs).mono ?_
  rintro e w1 ⟨r, rfl, hr, hE1⟩
  obtain ⟨A1, c1, B1, e1, rfl, _, _⟩ := hr
  have HF := Lib.hid ((HE.out.trans hE1).alloc (.cells #[.slice A1 (makeR d).ints.length c1, .slice B1 (makeR d).fracs.length e1] 24))
  have hd : emptyR d = (decide ((makeR d).ints.length = 0) && decide ((makeR d).fracs.length = 0)) := by
    unfold emptyR
    generalize makeR d = m
    obtain ⟨x, y⟩ := m
    simp [List.length_eq_zero_iff]
  have HD := Lib.hid hd
  clear hd hE1
  generalize makeR d = m at *
  by_cases h1 : m.ints.length = 0
  · have h1b : ((m.ints.length : Int) == 0) = true := by rw [h1]; rfl
    have hd1 : decide (m.ints.length = 0) = true := decide_eq_true h1
    have H1 := Lib.hid h1
    clear h1
    by_cases h2 : m.fracs.length = 0
    · have h2b : ((m.fracs.length : Int) == 0) = true := by rw [h2]; rfl
      have H2 := Lib.hid h2
      clear h2
      go_wp2
      go_ret
      exact ⟨by rw [HD.out, H1.out, H2.out]; rfl, HF.out⟩
    · have h2b : ((m.fracs.length : Int) == 0) = false := by rw [beq_eq_false_iff_ne]; omega
      have H2 := Lib.hid h2
      clear h2
      go_wp2
      go_ret
      exact ⟨by rw [HD.out, H1.out]; simp [H2.out], HF.out⟩
  · have h1b : ((m.ints.length : Int) == 0) = false := by rw [beq_eq_false_iff_ne]; omega
    have H1 := Lib.hid h1
    clear h1
    go_wp2
    go_ret
    exact ⟨by rw [HD.out]; simp [H1.out], HF.out⟩

set_option maxRecDepth 100000 in
set_option maxHeartbeats 1000000 in
theorem subsetR_any (w : World) (v0 : Value) (a : Nm) (h0 : NmAt w v0 a) (v1 : Value) (b : Nm) (h1 : NmAt w v1 b) (hs : Sz 100000 a) (hs' : Sz 100000 b) :
    Calls Try.prog 47 #[v0, v1] w fun e w' => e = .returned (.bool (subsetR a b)) ∧ Ext w w' := by
  have g0 := h0
  obtain ⟨A0, c0, B0, e0, rfl, x0, y0⟩ := g0
  have g1 := h1
  obtain ⟨A1, c1, B1, e1, rfl, x1, y1⟩ := g1
  have b0 : BlkN ((w.alloc (.cells #[.slice A0 a.ints.length c0, .slice B0 a.fracs.length e0] 24)).alloc (.cells #[.slice A1 b.ints.length c1, .slice B1 b.fracs.length e1] 24)) w.heap.size (.slice A0 a.ints.length c0) (.slice B0 a.fracs.length e0) := by simpa using (BlkN.new w (.slice A0 a.ints.length c0) (.slice B0 a.fracs.length e0)).alloc _
  have b1 : BlkN ((w.alloc (.cells #[.slice A0 a.ints.length c0, .slice B0 a.fracs.length e0] 24)).alloc (.cells #[.slice A1 b.ints.length c1, .slice B1 b.fracs.length e1] 24)) (w.heap.size + 1) (.slice A1 b.ints.length c1) (.slice B1 b.fracs.length e1) := by simpa using BlkN.new (w.alloc (.cells #[.slice A0 a.ints.length c0, .slice B0 a.fracs.length e0] 24)) (.slice A1 b.ints.length c1) (.slice B1 b.fracs.length e1)
  have hEW : Ext w ((w.alloc (.cells #[.slice A0 a.ints.length c0, .slice B0 a.fracs.length e0] 24)).alloc (.cells #[.slice A1 b.ints.length c1, .slice B1 b.fracs.length e1] 24)) := ((Ext.refl w).alloc _).alloc _
  have k0 := h0.ext hEW
  have k1 := h1.ext hEW
  have f0a := fun w' (h : Ext ((w.alloc (.cells #[.slice A0 a.ints.length c0, .slice B0 a.fracs.length e0] 24)).alloc (.cells #[.slice A1 b.ints.length c1, .slice B1 b.fracs.length e1] 24)) w') => (b0.ext h).cell0
  have f0b := fun w' (h : Ext ((w.alloc (.cells #[.slice A0 a.ints.length c0, .slice B0 a.fracs.length e0] 24)).alloc (.cells #[.slice A1 b.ints.length c1, .slice B1 b.fracs.length e1] 24)) w') => (b0.ext h).cell1
  have f1a := fun w' (h : Ext ((w.alloc (.cells #[.slice A0 a.ints.length c0, .slice B0 a.fracs.length e0] 24)).alloc (.cells #[.slice A1 b.ints.length c1, .slice B1 b.fracs.length e1] 24)) w') => (b1.ext h).cell0
  have f1b := fun w' (h : Ext ((w.alloc (.cells #[.slice A0 a.ints.length c0, .slice B0 a.fracs.length e0] 24)).alloc (.cells #[.slice A1 b.ints.length c1, .slice B1 b.fracs.length e1] 24)) w') => (b1.ext h).cell1
  have K0 := Lib.hid k0
  have K1 := Lib.hid k1
  have si0 : SpAt ((w.alloc (.cells #[.slice A0 a.ints.length c0, .slice B0 a.fracs.length e0] 24)).alloc (.cells #[.slice A1 b.ints.length c1, .slice B1 b.fracs.length e1] 24)) (.slice A0 a.ints.length c0) a.ints := ⟨A0, c0, rfl, x0.ext hEW⟩
  have sf0 : SpAt ((w.alloc (.cells #[.slice A0 a.ints.length c0, .slice B0 a.fracs.length e0] 24)).alloc (.cells #[.slice A1 b.ints.length c1, .slice B1 b.fracs.length e1] 24)) (.slice B0 a.fracs.length e0) a.fracs := ⟨B0, e0, rfl, y0.ext hEW⟩
  have SI0 := Lib.hid si0
  have SF0 := Lib.hid sf0
  clear si0 sf0
  have si1 : SpAt ((w.alloc (.cells #[.slice A0 a.ints.length c0, .slice B0 a.fracs.length e0] 24)).alloc (.cells #[.slice A1 b.ints.length c1, .slice B1 b.fracs.length e1] 24)) (.slice A1 b.ints.length c1) b.ints := ⟨A1, c1, rfl, x1.ext hEW⟩
  have sf1 : SpAt ((w.alloc (.cells #[.slice A0 a.ints.length c0, .slice B0 a.fracs.length e0] 24)).alloc (.cells #[.slice A1 b.ints.length c1, .slice B1 b.fracs.length e1] 24)) (.slice B1 b.fracs.length e1) b.fracs := ⟨B1, e1, rfl, y1.ext hEW⟩
  have SI1 := Lib.hid si1
  have SF1 := Lib.hid sf1
  clear si1 sf1
  have HE := Lib.hid hEW
  clear hEW b0 h0 k0 x0 y0 b1 h1 k1 x1 y1
  go_enter Try.func47, Try.ntmps47
  go_wp2_with fail
  refine (minusR_any _ _ a K0.out _ b K1.out hs hs').mono ?_
  rintro e w1 ⟨r, rfl, hr, hE1⟩
  go_wp2_with fail
  refine (emptyR_any _ _ _ hr ((minusR_sz hs hs').mono (by omega))).mono ?_
  rintro e w2 ⟨rfl, hE2⟩
  have HF := Lib.hid ((HE.out.trans hE1).trans hE2)
  clear hE1 hE2 hr
  go_wp2
  go_ret
  exact ⟨by first | rfl | simp [subsetR], HF.out⟩

/-- a slice of one span -/
theorem sl_one {w : World} {g B : Nat} {x y : Int} (h : Blk2 w g (.int .i64 x) (.int .i64 y)) (hg : g < B) : SlAt w B (some ⟨g, 0, none⟩) [(x, y)] := fun _ => by
  refine ⟨g, 0, rfl, hg, fun k s hs => ?_⟩
  have hk : k = 0 := by
    have := (List.getElem?_eq_some_iff.1 hs).1
    simp at this
    exact this
  subst hk
  simp at hs
  subst hs
  exact ⟨h.cell0, h.cell1⟩

set_option maxRecDepth 100000 in
set_option maxHeartbeats 1000000 in
theorem allR_any (w : World) : Calls Try.prog 38 #[] w fun e w' => ∃ r, e = .returned r ∧ NmAt w' r allN ∧ Ext w w' := by
  have hb := ((BlkN.new w (.slice (some ⟨w.heap.size + 1, 0, none⟩) 1 1) (.slice (some ⟨w.heap.size + 2, 0, none⟩) 1 1)).alloc (.cells #[.int .i64 (-100000000000), .int .i64 100000000000] 45)).alloc (.cells #[.int .i64 (-999999999999999), .int .i64 999999999999999] 45)
  have c0 := hb.cell0
  have c1 := hb.cell1
  go_enter Try.func38, Try.ntmps38
  go_wp2
  refine bodyPost_ret (v := .agg #[.slice (some ⟨w.heap.size + 1, 0, none⟩) 1 1, .slice (some ⟨w.heap.size + 2, 0, none⟩) 1 1]) (by simp [results, Try.results38, go_sem, c0, c1]) rfl ?_
  refine ⟨_, rfl, ⟨some ⟨w.heap.size + 1, 0, none⟩, 1, some ⟨w.heap.size + 2, 0, none⟩, 1, rfl, ?_, ?_⟩, (((Ext.refl w).alloc _).alloc _).alloc _⟩
  · exact sl_one (by simpa using (Blk2.new (w.alloc _) (.int .i64 (-100000000000)) (.int .i64 100000000000)).alloc _) (by simp)
  · exact sl_one (by simpa using Blk2.new ((w.alloc _).alloc _) (.int .i64 (-999999999999999)) (.int .i64 999999999999999)) (by simp)

set_option maxRecDepth 100000 in
set_option maxHeartbeats 1000000 in
theorem intsRset_any (w : World)   :
    Calls Try.prog 40 #[] w fun e w' => ∃ r, e = .returned r ∧ NmAt w' r (intsN) ∧ Ext w w' := by
  have br : BlkN (w.alloc (.cells #[.slice none 0 0, .slice none 0 0] 24)) w.heap.size (.slice none 0 0) (.slice none 0 0) := by simpa using BlkN.new w (.slice none 0 0) (.slice none 0 0)
  have hEW : Ext w (w.alloc (.cells #[.slice none 0 0, .slice none 0 0] 24)) := (Ext.refl w).alloc _
  have BR := Lib.hid br
  have HE := Lib.hid hEW
  clear hEW br
  go_enter Try.func40, Try.ntmps40
  go_wp2_with fail
  refine (allR_any _).mono ?_
  rintro e w1 ⟨r, rfl, ⟨A, c, B, c', rfl, hr, _⟩, hE1⟩
  have hE9 := hE1
  have hb3 := BR.out.ext hE9
  have hfin := nm_store (d := intsN) (c := c) (c' := 0) hb3 hr (SlAt.nil _ _ none) (HE.out.trans hE9) (by omega)
  have z0 := hb3.cell0
  have z1 := hb3.cell1
  have z2 := hb3.frozen0
  have z3 := fun u => (hb3.set0 u).frozen0 1
  have z4 := fun u => (hb3.set0 u).cell1
  obtain ⟨n1, n2, n3, n4⟩ := hfin
  have N1 := Lib.hid n1
  have N2 := Lib.hid n2
  have l2 : (intsN).ints.length = 1 := rfl
  have l3 : (intsN).fracs.length = 0 := rfl
  have l4 : allN.ints.length = 1 := rfl
  simp only [l2, l3] at n3 n4
  simp only [l4]
  clear n1 n2 hr hE9 hb3 l2 l3 l4 hE1
  go_wp2
  apply_assumption
  go_wp2
  exact bodyPost_ret (v := .agg #[.slice A 1 c, .slice none 0 0]) (by simp [results, Try.results40, go_sem, n3, n4]) rfl ⟨_, rfl, N1.out, N2.out⟩

set_option maxRecDepth 100000 in
set_option maxHeartbeats 1000000 in
theorem intsP_any (w : World) : Calls Try.prog 39 #[] w fun e w' => ∃ r, e = .returned r ∧ NmAt w' r intsN ∧ Ext w w' := by
  have hb := (BlkN.new w (.slice (some ⟨w.heap.size + 1, 0, none⟩) 1 1) (.slice none 0 0)).alloc (.cells #[.int .i64 (-100000000000), .int .i64 100000000000] 45)
  have c0 := hb.cell0
  have c1 := hb.cell1
  go_enter Try.func39, Try.ntmps39
  go_wp2
  refine bodyPost_ret (v := .agg #[.slice (some ⟨w.heap.size + 1, 0, none⟩) 1 1, .slice none 0 0]) (by simp [results, Try.results39, go_sem, c0, c1]) rfl ?_
  refine ⟨_, rfl, ⟨some ⟨w.heap.size + 1, 0, none⟩, 1, none, 0, rfl, ?_, SlAt.nil _ _ _⟩, ((Ext.refl w).alloc _).alloc _⟩
  exact sl_one (by simpa using Blk2.new (w.alloc _) (.int .i64 (-100000000000)) (.int .i64 100000000000)) (by simp)

set_option maxRecDepth 100000 in
set_option maxHeartbeats 1000000 in
theorem allP_any (w : World)   :
    Calls Try.prog 31 #[] w fun e w' => ∃ r, e = .returned r ∧ NmAt w' r (allN) ∧ Ext w w' := by
  have br : BlkN (w.alloc (.cells #[.slice none 0 0, .slice none 0 0] 24)) w.heap.size (.slice none 0 0) (.slice none 0 0) := by simpa using BlkN.new w (.slice none 0 0) (.slice none 0 0)
  have hEW : Ext w (w.alloc (.cells #[.slice none 0 0, .slice none 0 0] 24)) := (Ext.refl w).alloc _
  have BR := Lib.hid br
  have HE := Lib.hid hEW
  clear hEW br
  go_enter Try.func31, Try.ntmps31
  go_wp2_with fail
  refine (intsP_any _).mono ?_
  rintro e w1 ⟨r, rfl, ⟨A, c, B, c', rfl, hr, _⟩, hE1⟩
  have l1 : intsN.ints.length = 1 := rfl
  have l0 : intsN.fracs.length = 0 := rfl
  simp only [l1, l0]
  clear l1 l0
  obtain ⟨W, hW⟩ : ∃ W, W = (w1.alloc (.cells #[.slice A 1 c, .slice (some ⟨w1.heap.size + 1, 0, none⟩) 1 1] 24)).alloc (.cells #[.int .i64 (-999999999999999), .int .i64 999999999999999] 45) := ⟨_, rfl⟩
  have hE9 : Ext (w.alloc (.cells #[.slice none 0 0, .slice none 0 0] 24)) W := by rw [hW]; exact (hE1.alloc _).alloc _
  have hb1 : BlkN W w1.heap.size (.slice A 1 c) (.slice (some ⟨w1.heap.size + 1, 0, none⟩) 1 1) := by rw [hW]; exact (BlkN.new _ _ _).alloc _
  have hi : SlAt W W.heap.size A allN.ints := by rw [hW]; exact hr.ext (((Ext.refl _).alloc _).alloc _)
  have hf : SlAt W W.heap.size (some ⟨w1.heap.size + 1, 0, none⟩) allN.fracs := by
    rw [hW]
    exact sl_one (by simpa using Blk2.new (w1.alloc _) (.int .i64 (-999999999999999)) (.int .i64 999999999999999)) (by simp)
  have hb3 := BR.out.ext hE9
  have hfin := nm_store (d := allN) (c := c) (c' := 1) hb3 hi hf (HE.out.trans hE9) (by omega)
  have y0 := hb1.cell0
  have y1 := hb1.cell1
  have z0 := hb3.cell0
  have z1 := hb3.cell1
  have z2 := hb3.frozen0
  have z3 := fun u => (hb3.set0 u).frozen0 1
  have z4 := fun u => (hb3.set0 u).cell1
  obtain ⟨n1, n2, n3, n4⟩ := hfin
  have N1 := Lib.hid n1
  have N2 := Lib.hid n2
  have l2 : allN.ints.length = 1 := rfl
  have l3 : allN.fracs.length = 1 := rfl
  simp only [l2, l3] at n3 n4
  have HW := Lib.hid hW
  clear n1 n2 hr hE9 hb3 l2 l3 hE1 hb1 hi hf
  simp only [hW] at y0 y1 z0 z1 z2 z3 z4 n3 n4
  clear hW
  go_wp2
  refine bodyPost_ret (v := .agg #[.slice A 1 c, .slice (some ⟨w1.heap.size + 1, 0, none⟩) 1 1]) (by simp [results, Try.results31, go_sem, n3, n4]) rfl ⟨_, rfl, ?_, ?_⟩
  · have := N1.out
    rw [HW.out] at this
    exact this
  · have := N2.out
    rw [HW.out] at this
    exact this

end Go.Proofs.Ytaianhhmmacblaa
