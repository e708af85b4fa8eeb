import Derived.Test.YtaianhhmmacblaaRef1
import Derived.Test.YtaianhhmmacblaaRef2
import Derived.Test.YtaianhhmmacblaaRef3
import Derived.Test.YtaianhhmmacblaaSame
/-
  The reference's Make.
-/
namespace Go.Proofs.Ytaianhhmmacblaa
open Go.RowKit

set_option maxRecDepth 100000 in
set_option maxHeartbeats 1000000 in
theorem makeR_any (w : World) (v0 : Value) (d : Nm) (h0 : NmAt w v0 d) (hs : Sz 1000000 d) :
    Calls Try.prog 34 #[v0] w fun e w' => ∃ r, e = .returned r ∧ NmAt w' r (makeR d) ∧ Ext w w' := by
  have g0 := h0
  obtain ⟨A0, c0, B0, e0, rfl, x0, y0⟩ := g0
  go_enter Try.func34, Try.ntmps34
  go_wp2
  obtain ⟨W, hW⟩ : ∃ W, W = ((w.alloc (.cells #[.slice A0 d.ints.length c0, .slice B0 d.fracs.length e0] 24)).alloc (.cells #[.slice none 0 0, .slice none 0 0] 24)) := ⟨_, rfl⟩
  have b0 : BlkN W w.heap.size (.slice A0 d.ints.length c0) (.slice B0 d.fracs.length e0) := by rw [hW]; simpa using (BlkN.new w (.slice A0 d.ints.length c0) (.slice B0 d.fracs.length e0)).alloc _
  have br : BlkN W (w.heap.size + 1) (.slice none 0 0) (.slice none 0 0) := by rw [hW]; simpa using BlkN.new (w.alloc (.cells #[.slice A0 d.ints.length c0, .slice B0 d.fracs.length e0] 24)) (.slice none 0 0) (.slice none 0 0)
  have hEW : Ext w W := by rw [hW]; exact ((Ext.refl w).alloc _).alloc _
  have k0 := h0.ext hEW
  rw [← hW]
  have f0a := fun w' (h : Ext W w') => (b0.ext h).cell0
  have f0b := fun w' (h : Ext W w') => (b0.ext h).cell1
  have K0 := Lib.hid k0
  have BR := Lib.hid br
  have HE := Lib.hid hEW
  clear hW hEW b0 h0 k0 x0 y0 br
  refine wp_region_rel (E := Ext) (m := 5) (n := 8) (by kernel_rfl) rfl (by decide) rfl (by kernel_rfl) (by kernel_rfl) ((Ext.refl _).drawn _) Ext.refl (fun _ _ _ => Ext.trans) ?_
  simp only [List.take_succ_cons, List.take_zero]
  apply rel_pure
  · intro a w' K' hE he hK
    simp [Oper.looksAt, Op.operands] at he
    go_simp
    exact hK _ rfl
  refine rel_any (fun v w => SpAt w v (intsR d.ints)) (fun _ _ _ h hE => SpAt.ext h hE) ?_ ?_
  · intro a w' K' hE he hK
    simp [Oper.looksAt, Op.operands, Call.operands, upd] at he
    go_simp
    refine (intsR_any _ _ d (K0.out.ext hE) (by have := hs.1; omega)).mono ?_
    rintro e w'' ⟨r, rfl, hr, hE'⟩
    exact hK _ _ hE' hr
  apply rel_pure
  · intro a w' K' hE he hK
    simp [Oper.looksAt, Op.operands, upd] at he
    go_simp
    exact hK _ rfl
  refine rel_any (fun v w => SpAt w v (fracsR d.fracs)) (fun _ _ _ h hE => SpAt.ext h hE) ?_ ?_
  · intro a w' K' hE he hK
    simp [Oper.looksAt, Op.operands, Call.operands, upd] at he
    go_simp
    refine (fracsR_any _ _ d (K0.out.ext hE) (by have := hs.2; omega)).mono ?_
    rintro e w'' ⟨r, rfl, hr, hE'⟩
    exact hK _ _ hE' hr
  refine rel_any (fun v w => NmAt w v (makeR d)) (fun _ _ _ h hE => NmAt.ext h hE) ?_ ?_
  · intro a w' K' hE he hK
    simp [Oper.looksAt, Op.operands, Call.operands, upd] at he
    go_simp
    refine (ofR_v _ _ _ _ _ he.1 he.2 (by have := fracsR_len d.fracs; have := hs.2; omega) (fun s hsm => by have := fracsR_rng _ s hsm; omega)).mono ?_
    rintro e w'' ⟨r, rfl, hr, hE'⟩
    exact hK _ _ hE' hr
  refine relSeq_nil fun w3 hE3 => ?_
  simp only [fin, List.nil_append, List.cons_append]
  rintro _ rfl q1 u1 _ rfl q3 u3 q4 u4
  have br := BR.out
  have hE0 := HE.out
  obtain ⟨Ar, cr, Ar', cr', rfl, hr1, hr2⟩ := u4
  have hb3 := br.ext hE3
  have hfin := nm_store (c := cr) (c' := cr') hb3 hr1 hr2 (hE0.trans hE3) (by omega)
  have z0 := hb3.cell0
  have z1 := hb3.cell1
  have z2 := hb3.frozen0
  have z3 := fun u => (hb3.set0 u).frozen0 1
  have z4 := fun u => (hb3.set0 u).cell1
  obtain ⟨n1, n2, n3, n4⟩ := hfin
  have N1 := Lib.hid n1
  have N2 := Lib.hid n2
  clear n1 n2 br hE0 hr1 hr2 hE3
  simp only [Act.put]
  simp
  go_wp2
  (try apply_assumption)
  (try go_wp2)
  exact bodyPost_ret (v := .agg #[.slice Ar (makeR d).ints.length cr, .slice Ar' (makeR d).fracs.length cr']) (by simp [results, Try.results34, go_sem, n3, n4]) rfl ⟨_, rfl, N1.out, N2.out⟩

end Go.Proofs.Ytaianhhmmacblaa
/-
  The reference's Valid, Not, And, Minus, Subset, All, Ints, Or.
-/
namespace Go.Proofs.Ytaianhhmmacblaa
open Go.RowKit

set_option maxRecDepth 100000 in
set_option maxHeartbeats 1000000 in
theorem validNR_any (w : World) (v0 : Value) (d : Nm) (h0 : NmAt w v0 d) (hs : Sz 1000000 d) :
    Calls Try.prog 36 #[v0] w fun e w' => e = .returned (.bool (validNR d)) ∧ Ext w w' := by
  have g0 := h0
  obtain ⟨A0, c0, B0, e0, rfl, x0, y0⟩ := g0
  go_enter Try.func36, Try.ntmps36
  go_wp2
  obtain ⟨W, hW⟩ : ∃ W, W = (w.alloc (.cells #[.slice A0 d.ints.length c0, .slice B0 d.fracs.length e0] 24)) := ⟨_, rfl⟩
  have b0 : BlkN W w.heap.size (.slice A0 d.ints.length c0) (.slice B0 d.fracs.length e0) := by rw [hW]; simpa using BlkN.new w (.slice A0 d.ints.length c0) (.slice B0 d.fracs.length e0)
  have hEW : Ext w W := by rw [hW]; exact (Ext.refl w).alloc _
  have k0 := h0.ext hEW
  rw [← hW]
  have f0a := fun w' (h : Ext W w') => (b0.ext h).cell0
  have f0b := fun w' (h : Ext W w') => (b0.ext h).cell1
  have K0 := Lib.hid k0
  have HE := Lib.hid hEW
  clear hW hEW b0 h0 k0 x0 y0
  refine wp_region_rel (E := Ext) (m := 5) (by kernel_rfl) rfl (by decide) rfl (by kernel_rfl) (by kernel_rfl) ((Ext.refl _).drawn _) Ext.refl (fun _ _ _ => Ext.trans) ?_
  simp only [List.take_succ_cons, List.take_zero]
  apply rel_pure
  · intro a w' K' hE he hK
    simp [Oper.looksAt, Op.operands] at he
    go_simp
    exact hK _ rfl
  apply rel_pure
  · intro a w' K' hE he hK
    simp [Oper.looksAt, Op.operands, upd] at he
    go_simp
    exact hK _ rfl
  refine rel_any (fun v w => NmAt w v (makeR d)) (fun _ _ _ h hE => NmAt.ext h hE) ?_ ?_
  · intro a w' K' hE he hK
    simp [Oper.looksAt, Op.operands, Call.operands, upd] at he
    go_simp
    refine (makeR_any _ _ d (K0.out.ext hE) hs).mono ?_
    rintro e w'' ⟨r, rfl, hr, hE'⟩
    exact hK _ _ hE' hr
  refine rel_any (fun v _ => v = .bool (validNR d)) (fun _ _ _ h _ => h) ?_ ?_
  · intro a w' K' hE he hK
    simp [Oper.looksAt, Op.operands, Call.operands, upd] at he
    go_simp
    refine (sameR_any _ _ d (K0.out.ext hE) _ (makeR d) he.2 (hs.mono (by omega)) ((makeR_sz hs).mono (by omega))).mono ?_
    rintro e w'' ⟨rfl, hE'⟩
    exact hK _ _ hE' rfl
  apply rel_pure
  · intro a w' K' hE he hK
    simp [Oper.looksAt, Op.operands, upd] at he
    go_simp
    exact hK _ rfl
  refine relSeq_nil fun w3 hE3 => ?_
  simp only [fin, List.nil_append, List.cons_append]
  rintro _ rfl _ rfl q2 u2 _ rfl _ rfl
  have hE0 := HE.out
  have hE5 := hE0.trans hE3
  simp only [Act.put]
  simp
  go_wp2
  (try apply_assumption)
  (try go_wp2)
  go_ret
  exact ⟨rfl, hE5⟩

set_option maxRecDepth 100000 in
set_option maxHeartbeats 1000000 in
theorem notR_any (w : World) (v0 : Value) (d : Nm) (h0 : NmAt w v0 d) (hs : Sz 1000000 d) :
    Calls Try.prog 43 #[v0] w fun e w' => ∃ r, e = .returned r ∧ NmAt w' r (notR d) ∧ Ext w w' := by
  have g0 := h0
  obtain ⟨A0, c0, B0, e0, rfl, x0, y0⟩ := g0
  go_enter Try.func43, Try.ntmps43
  go_wp2
  obtain ⟨W, hW⟩ : ∃ W, W = ((w.alloc (.cells #[.slice A0 d.ints.length c0, .slice B0 d.fracs.length e0] 24)).alloc (.cells #[.slice none 0 0, .slice none 0 0] 24)) := ⟨_, rfl⟩
  have b0 : BlkN W w.heap.size (.slice A0 d.ints.length c0) (.slice B0 d.fracs.length e0) := by rw [hW]; simpa using (BlkN.new w (.slice A0 d.ints.length c0) (.slice B0 d.fracs.length e0)).alloc _
  have br : BlkN W (w.heap.size + 1) (.slice none 0 0) (.slice none 0 0) := by rw [hW]; simpa using BlkN.new (w.alloc (.cells #[.slice A0 d.ints.length c0, .slice B0 d.fracs.length e0] 24)) (.slice none 0 0) (.slice none 0 0)
  have hEW : Ext w W := by rw [hW]; exact ((Ext.refl w).alloc _).alloc _
  have k0 := h0.ext hEW
  rw [← hW]
  have f0a := fun w' (h : Ext W w') => (b0.ext h).cell0
  have f0b := fun w' (h : Ext W w') => (b0.ext h).cell1
  have K0 := Lib.hid k0
  have BR := Lib.hid br
  have HE := Lib.hid hEW
  clear hW hEW b0 h0 k0 x0 y0 br
  refine wp_region_rel (E := Ext) (m := 7) (by kernel_rfl) rfl (by decide) rfl (by kernel_rfl) (by kernel_rfl) ((Ext.refl _).drawn _) Ext.refl (fun _ _ _ => Ext.trans) ?_
  simp only [List.take_succ_cons, List.take_zero]
  apply rel_pure
  · intro a w' K' hE he hK
    simp [Oper.looksAt, Op.operands] at he
    go_simp
    exact hK _ rfl
  refine rel_any (fun v w => SpAt w v (intsR d.ints)) (fun _ _ _ h hE => SpAt.ext h hE) ?_ ?_
  · intro a w' K' hE he hK
    simp [Oper.looksAt, Op.operands, Call.operands, upd] at he
    go_simp
    refine (intsR_any _ _ d (K0.out.ext hE) (by have := hs.1; omega)).mono ?_
    rintro e w'' ⟨r, rfl, hr, hE'⟩
    exact hK _ _ hE' hr
  refine rel_any (fun v w => SpAt w v (gapsR (intsR d.ints) (-100000000000) 100000000000)) (fun _ _ _ h hE => SpAt.ext h hE) ?_ ?_
  · intro a w' K' hE he hK
    simp [Oper.looksAt, Op.operands, Call.operands, upd] at he
    go_simp
    refine (gapsR_v _ _ _ _ _ he (by have := intsR_len d.ints; have := hs.1; omega) (intsR_bd _) (by omega) (by omega)).mono ?_
    rintro e w'' ⟨r, rfl, hr, hE'⟩
    exact hK _ _ hE' hr
  apply rel_pure
  · intro a w' K' hE he hK
    simp [Oper.looksAt, Op.operands, upd] at he
    go_simp
    exact hK _ rfl
  refine rel_any (fun v w => SpAt w v (fracsR d.fracs)) (fun _ _ _ h hE => SpAt.ext h hE) ?_ ?_
  · intro a w' K' hE he hK
    simp [Oper.looksAt, Op.operands, Call.operands, upd] at he
    go_simp
    refine (fracsR_any _ _ d (K0.out.ext hE) (by have := hs.2; omega)).mono ?_
    rintro e w'' ⟨r, rfl, hr, hE'⟩
    exact hK _ _ hE' hr
  refine rel_any (fun v w => SpAt w v (gapsR (fracsR d.fracs) (-999900000000000) 999899999999999)) (fun _ _ _ h hE => SpAt.ext h hE) ?_ ?_
  · intro a w' K' hE he hK
    simp [Oper.looksAt, Op.operands, Call.operands, upd] at he
    go_simp
    refine (gapsR_v _ _ _ _ _ he (by have := fracsR_len d.fracs; have := hs.2; omega) (fracsR_bd _) (by omega) (by omega)).mono ?_
    rintro e w'' ⟨r, rfl, hr, hE'⟩
    exact hK _ _ hE' hr
  refine rel_any (fun v w => NmAt w v (notR d)) (fun _ _ _ h hE => NmAt.ext h hE) ?_ ?_
  · intro a w' K' hE he hK
    simp [Oper.looksAt, Op.operands, Call.operands, upd] at he
    go_simp
    refine (ofR_v _ _ _ _ _ he.1 he.2 (by have := gapsR_len (fracsR d.fracs) (-999900000000000) 999899999999999; have := fracsR_len d.fracs; have := hs.2; omega) (fun s hsm => by have := gapsR_rng 1000000000000001 _ _ _ (fracsR_rng d.fracs) (by omega) (by omega) (by omega) (by omega) s hsm; omega)).mono ?_
    rintro e w'' ⟨r, rfl, hr, hE'⟩
    exact hK _ _ hE' hr
  refine relSeq_nil fun w3 hE3 => ?_
  simp only [fin, List.nil_append, List.cons_append]
  rintro _ rfl q1 u1 q2 u2 _ rfl q4 u4 q5 u5 q6 u6
  have br := BR.out
  have hE0 := HE.out
  obtain ⟨Ar, cr, Ar', cr', rfl, hr1, hr2⟩ := u6
  have hb3 := br.ext hE3
  have hfin := nm_store (c := cr) (c' := cr') hb3 hr1 hr2 (hE0.trans hE3) (by omega)
  have z0 := hb3.cell0
  have z1 := hb3.cell1
  have z2 := hb3.frozen0
  have z3 := fun u => (hb3.set0 u).frozen0 1
  have z4 := fun u => (hb3.set0 u).cell1
  obtain ⟨n1, n2, n3, n4⟩ := hfin
  have N1 := Lib.hid n1
  have N2 := Lib.hid n2
  clear n1 n2 br hE0 hr1 hr2 hE3
  simp only [Act.put]
  simp
  go_wp2
  (try apply_assumption)
  (try go_wp2)
  exact bodyPost_ret (v := .agg #[.slice Ar (notR d).ints.length cr, .slice Ar' (notR d).fracs.length cr']) (by simp [results, Try.results43, go_sem, n3, n4]) rfl ⟨_, rfl, N1.out, N2.out⟩

end Go.Proofs.Ytaianhhmmacblaa
/-
  The reference's Or, And, Minus, Subset, All, Ints.
-/
namespace Go.Proofs.Ytaianhhmmacblaa
open Go.RowKit

set_option maxRecDepth 100000 in
set_option maxHeartbeats 1000000 in
theorem orR_any (w : World) (v0 : Value) (a : Nm) (h0 : NmAt w v0 a) (v1 : Value) (b : Nm) (h1 : NmAt w v1 b) (hs : Sz 500000 a) (hs' : Sz 500000 b) :
    Calls Try.prog 42 #[v0, v1] w fun e w' => ∃ r, e = .returned r ∧ NmAt w' r (orR a b) ∧ Ext w w' := by
  have g0 := h0
  obtain ⟨A0, c0, B0, e0, rfl, x0, y0⟩ := g0
  have g1 := h1
  obtain ⟨A1, c1, B1, e1, rfl, x1, y1⟩ := g1
  have b0 : BlkN (((w.alloc (.cells #[.slice A0 a.ints.length c0, .slice B0 a.fracs.length e0] 24)).alloc (.cells #[.slice A1 b.ints.length c1, .slice B1 b.fracs.length e1] 24)).alloc (.cells #[.slice none 0 0, .slice none 0 0] 24)) w.heap.size (.slice A0 a.ints.length c0) (.slice B0 a.fracs.length e0) := by simpa using ((BlkN.new w (.slice A0 a.ints.length c0) (.slice B0 a.fracs.length e0)).alloc _).alloc _
  have b1 : BlkN (((w.alloc (.cells #[.slice A0 a.ints.length c0, .slice B0 a.fracs.length e0] 24)).alloc (.cells #[.slice A1 b.ints.length c1, .slice B1 b.fracs.length e1] 24)).alloc (.cells #[.slice none 0 0, .slice none 0 0] 24)) (w.heap.size + 1) (.slice A1 b.ints.length c1) (.slice B1 b.fracs.length e1) := by simpa using (BlkN.new (w.alloc (.cells #[.slice A0 a.ints.length c0, .slice B0 a.fracs.length e0] 24)) (.slice A1 b.ints.length c1) (.slice B1 b.fracs.length e1)).alloc _
  have br : BlkN (((w.alloc (.cells #[.slice A0 a.ints.length c0, .slice B0 a.fracs.length e0] 24)).alloc (.cells #[.slice A1 b.ints.length c1, .slice B1 b.fracs.length e1] 24)).alloc (.cells #[.slice none 0 0, .slice none 0 0] 24)) (w.heap.size + 2) (.slice none 0 0) (.slice none 0 0) := by simpa using BlkN.new ((w.alloc (.cells #[.slice A0 a.ints.length c0, .slice B0 a.fracs.length e0] 24)).alloc (.cells #[.slice A1 b.ints.length c1, .slice B1 b.fracs.length e1] 24)) (.slice none 0 0) (.slice none 0 0)
  have hEW : Ext w (((w.alloc (.cells #[.slice A0 a.ints.length c0, .slice B0 a.fracs.length e0] 24)).alloc (.cells #[.slice A1 b.ints.length c1, .slice B1 b.fracs.length e1] 24)).alloc (.cells #[.slice none 0 0, .slice none 0 0] 24)) := (((Ext.refl w).alloc _).alloc _).alloc _
  have k0 := h0.ext hEW
  have k1 := h1.ext hEW
  have f0a := fun w' (h : Ext (((w.alloc (.cells #[.slice A0 a.ints.length c0, .slice B0 a.fracs.length e0] 24)).alloc (.cells #[.slice A1 b.ints.length c1, .slice B1 b.fracs.length e1] 24)).alloc (.cells #[.slice none 0 0, .slice none 0 0] 24)) w') => (b0.ext h).cell0
  have f0b := fun w' (h : Ext (((w.alloc (.cells #[.slice A0 a.ints.length c0, .slice B0 a.fracs.length e0] 24)).alloc (.cells #[.slice A1 b.ints.length c1, .slice B1 b.fracs.length e1] 24)).alloc (.cells #[.slice none 0 0, .slice none 0 0] 24)) w') => (b0.ext h).cell1
  have f1a := fun w' (h : Ext (((w.alloc (.cells #[.slice A0 a.ints.length c0, .slice B0 a.fracs.length e0] 24)).alloc (.cells #[.slice A1 b.ints.length c1, .slice B1 b.fracs.length e1] 24)).alloc (.cells #[.slice none 0 0, .slice none 0 0] 24)) w') => (b1.ext h).cell0
  have f1b := fun w' (h : Ext (((w.alloc (.cells #[.slice A0 a.ints.length c0, .slice B0 a.fracs.length e0] 24)).alloc (.cells #[.slice A1 b.ints.length c1, .slice B1 b.fracs.length e1] 24)).alloc (.cells #[.slice none 0 0, .slice none 0 0] 24)) w') => (b1.ext h).cell1
  have K0 := Lib.hid k0
  have K1 := Lib.hid k1
  have si0 : SpAt (((w.alloc (.cells #[.slice A0 a.ints.length c0, .slice B0 a.fracs.length e0] 24)).alloc (.cells #[.slice A1 b.ints.length c1, .slice B1 b.fracs.length e1] 24)).alloc (.cells #[.slice none 0 0, .slice none 0 0] 24)) (.slice A0 a.ints.length c0) a.ints := ⟨A0, c0, rfl, x0.ext hEW⟩
  have sf0 : SpAt (((w.alloc (.cells #[.slice A0 a.ints.length c0, .slice B0 a.fracs.length e0] 24)).alloc (.cells #[.slice A1 b.ints.length c1, .slice B1 b.fracs.length e1] 24)).alloc (.cells #[.slice none 0 0, .slice none 0 0] 24)) (.slice B0 a.fracs.length e0) a.fracs := ⟨B0, e0, rfl, y0.ext hEW⟩
  have SI0 := Lib.hid si0
  have SF0 := Lib.hid sf0
  clear si0 sf0
  have si1 : SpAt (((w.alloc (.cells #[.slice A0 a.ints.length c0, .slice B0 a.fracs.length e0] 24)).alloc (.cells #[.slice A1 b.ints.length c1, .slice B1 b.fracs.length e1] 24)).alloc (.cells #[.slice none 0 0, .slice none 0 0] 24)) (.slice A1 b.ints.length c1) b.ints := ⟨A1, c1, rfl, x1.ext hEW⟩
  have sf1 : SpAt (((w.alloc (.cells #[.slice A0 a.ints.length c0, .slice B0 a.fracs.length e0] 24)).alloc (.cells #[.slice A1 b.ints.length c1, .slice B1 b.fracs.length e1] 24)).alloc (.cells #[.slice none 0 0, .slice none 0 0] 24)) (.slice B1 b.fracs.length e1) b.fracs := ⟨B1, e1, rfl, y1.ext hEW⟩
  have SI1 := Lib.hid si1
  have SF1 := Lib.hid sf1
  clear si1 sf1
  have BR := Lib.hid br
  have HE := Lib.hid hEW
  have X0 := Lib.hid x0
  have X1 := Lib.hid x1
  have Y0 := Lib.hid y0
  have Y1 := Lib.hid y1
  clear x0 x1 y0 y1
  clear hEW b0 h0 k0 b1 h1 k1 br
  have bo : BlkN ((((w.alloc (.cells #[.slice A0 a.ints.length c0, .slice B0 a.fracs.length e0] 24)).alloc (.cells #[.slice A1 b.ints.length c1, .slice B1 b.fracs.length e1] 24)).alloc (.cells #[.slice none 0 0, .slice none 0 0] 24)).alloc (.cells #[.slice none 0 0, .slice none 0 0] 24)) (w.heap.size + 3) (.slice none 0 0) (.slice none 0 0) := by simpa using BlkN.new (((w.alloc (.cells #[.slice A0 a.ints.length c0, .slice B0 a.fracs.length e0] 24)).alloc (.cells #[.slice A1 b.ints.length c1, .slice B1 b.fracs.length e1] 24)).alloc (.cells #[.slice none 0 0, .slice none 0 0] 24)) (.slice none 0 0) (.slice none 0 0)
  have hsz4 : ((((w.alloc (.cells #[.slice A0 a.ints.length c0, .slice B0 a.fracs.length e0] 24)).alloc (.cells #[.slice A1 b.ints.length c1, .slice B1 b.fracs.length e1] 24)).alloc (.cells #[.slice none 0 0, .slice none 0 0] 24)).alloc (.cells #[.slice none 0 0, .slice none 0 0] 24)).heap.size = w.heap.size + 4 := by simp
  have E4 : Ext (((w.alloc (.cells #[.slice A0 a.ints.length c0, .slice B0 a.fracs.length e0] 24)).alloc (.cells #[.slice A1 b.ints.length c1, .slice B1 b.fracs.length e1] 24)).alloc (.cells #[.slice none 0 0, .slice none 0 0] 24)) ((((w.alloc (.cells #[.slice A0 a.ints.length c0, .slice B0 a.fracs.length e0] 24)).alloc (.cells #[.slice A1 b.ints.length c1, .slice B1 b.fracs.length e1] 24)).alloc (.cells #[.slice none 0 0, .slice none 0 0] 24)).alloc (.cells #[.slice none 0 0, .slice none 0 0] 24)) := (Ext.refl _).alloc _
  have HSZ := Lib.hid hsz4
  clear hsz4
  go_enter Try.func42, Try.ntmps42
  go_wp2_with (at_builtin; refine app_many rfl _ _ rfl (w.heap.size + 4) _ [] A0 c0 a.ints rfl (Own.nil _ _) rfl (X0.out.ext (HE.out.trans E4)) (by have := hs.1; simp; omega) (by simp) ?_)
  intro v1 w1 o1 hB1 _
  have o1 : Own w1 (w.heap.size + 4) v1 a.ints := own_cast o1 (by simp)
  obtain ⟨A5, c5, rfl⟩ := o1.form
  have bo1 := bo.below hB1 (by omega)
  have s1 : w.heap.size + 4 ≤ w1.heap.size := by have := hB1.size; rw [HSZ.out] at this; exact this
  have E5 : Ext (((w.alloc (.cells #[.slice A0 a.ints.length c0, .slice B0 a.fracs.length e0] 24)).alloc (.cells #[.slice A1 b.ints.length c1, .slice B1 b.fracs.length e1] 24)).alloc (.cells #[.slice none 0 0, .slice none 0 0] 24)) (w1.setCell ⟨w.heap.size + 3, 0, none⟩ (.slice A5 a.ints.length c5)) := Ext.setCell (Below.trans (B := Array.size _) E4 (hB1.mono (by simp))) (by simp) _
  have bo5 := bo1.set0 (.slice A5 a.ints.length c5)
  have o5 := o1.setOther (p := ⟨w.heap.size + 3, 0, none⟩) (fun e => by have := (o1.lt (w.heap.size + 3) e).1; omega) (.slice A5 a.ints.length c5)
  have q1 := bo1.frozen0 0
  have q2 := bo1.cell0
  have q3 := bo5.cell0
  have q4 : w.heap.size + 3 < w1.heap.size := by omega
  clear hB1 o1
  go_wp2_with (at_builtin; refine app_many rfl _ _ rfl (w.heap.size + 4) _ a.ints A1 c1 b.ints rfl o5 rfl (X1.out.ext (HE.out.trans E5)) (by have := hs.1; have := hs'.1; omega) (by simp [World.setCell]; omega) ?_)
  intro v2 w2 o2 hB2 _
  obtain ⟨A6, c6, rfl⟩ : ∃ A c, v2 = .slice A (a.ints.length + b.ints.length) c := by
    obtain ⟨A6, c6, e⟩ := o2.form
    exact ⟨A6, c6, by rw [e]; simp⟩
  have bo6 := bo5.below hB2 (by omega)
  have s2 : w1.heap.size ≤ w2.heap.size := by have := hB2.size; simpa [World.setCell] using this
  have E6 : Ext (((w.alloc (.cells #[.slice A0 a.ints.length c0, .slice B0 a.fracs.length e0] 24)).alloc (.cells #[.slice A1 b.ints.length c1, .slice B1 b.fracs.length e1] 24)).alloc (.cells #[.slice none 0 0, .slice none 0 0] 24)) (w2.setCell ⟨w.heap.size + 3, 0, none⟩ (.slice A6 (a.ints.length + b.ints.length) c6)) := Ext.setCell (Below.trans (B := Array.size _) E5 (hB2.mono (by simp))) (by simp) _
  have bo7 := bo6.set0 (.slice A6 (a.ints.length + b.ints.length) c6)
  have o7 := o2.setOther (p := ⟨w.heap.size + 3, 0, none⟩) (fun e => by have := (o2.lt (w.heap.size + 3) e).1; omega) (.slice A6 (a.ints.length + b.ints.length) c6)
  have i7 := o7.at_.2
  have q1 := bo6.frozen0 0
  have q2 := bo6.cell0
  have q3 := bo7.cell1
  have q4 : w.heap.size + 3 < w2.heap.size := by omega
  clear hB2 o2 o5 bo5 q3
  have q3 := bo7.cell1
  go_wp2_with (at_builtin; refine app_many rfl _ _ rfl w2.heap.size _ [] B0 e0 a.fracs rfl (Own.nil _ _) rfl (Y0.out.ext (HE.out.trans E6)) (by have := hs.2; simp; omega) (by simp [World.setCell]) ?_)
  intro v3 w3 o3 hB3 _
  have o3 : Own w3 w2.heap.size v3 a.fracs := own_cast o3 (by simp)
  obtain ⟨A8, c8, rfl⟩ := o3.form
  have bo8 := bo7.below hB3 (by omega)
  have s3 : w2.heap.size ≤ w3.heap.size := by have := hB3.size; simpa [World.setCell] using this
  have E8 : Ext (((w.alloc (.cells #[.slice A0 a.ints.length c0, .slice B0 a.fracs.length e0] 24)).alloc (.cells #[.slice A1 b.ints.length c1, .slice B1 b.fracs.length e1] 24)).alloc (.cells #[.slice none 0 0, .slice none 0 0] 24)) (w3.setCell ⟨w.heap.size + 3, 1, none⟩ (.slice A8 a.fracs.length c8)) := Ext.setCell (Below.trans (B := Array.size _) E6 (hB3.mono (by simp; omega))) (by simp) _
  have bo9 := bo8.set1 (.slice A8 a.fracs.length c8)
  have o9 := o3.setOther (p := ⟨w.heap.size + 3, 1, none⟩) (fun e => by have := (o3.lt (w.heap.size + 3) e).1; omega) (.slice A8 a.fracs.length c8)
  have i9 := ((i7.mono (by simp [World.setCell] : _ ≤ w2.heap.size)).below hB3).setOther (p := ⟨w.heap.size + 3, 1, none⟩) bo8.cell1 (by simp) (.slice A8 a.fracs.length c8)
  have q1 := bo8.frozen0 1
  have q2 := bo8.cell1
  have q3 := bo9.cell1
  have q4 : w.heap.size + 3 < w3.heap.size := by omega
  clear hB3 o3 o7 bo7 i7
  go_wp2_with (at_builtin; refine app_many rfl _ _ rfl w2.heap.size _ a.fracs B1 e1 b.fracs rfl o9 rfl (Y1.out.ext (HE.out.trans E8)) (by have := hs.2; have := hs'.2; omega) (by simp [World.setCell]; omega) ?_)
  intro v4 w4 o4 hB4 _
  obtain ⟨A10, c10, rfl⟩ : ∃ A c, v4 = .slice A (a.fracs.length + b.fracs.length) c := by
    obtain ⟨A6, c6, e⟩ := o4.form
    exact ⟨A6, c6, by rw [e]; simp⟩
  have bo10 := bo9.below hB4 (by omega)
  have s4 : w3.heap.size ≤ w4.heap.size := by have := hB4.size; simpa [World.setCell] using this
  have E10 : Ext (((w.alloc (.cells #[.slice A0 a.ints.length c0, .slice B0 a.fracs.length e0] 24)).alloc (.cells #[.slice A1 b.ints.length c1, .slice B1 b.fracs.length e1] 24)).alloc (.cells #[.slice none 0 0, .slice none 0 0] 24)) (w4.setCell ⟨w.heap.size + 3, 1, none⟩ (.slice A10 (a.fracs.length + b.fracs.length) c10)) := Ext.setCell (Below.trans (B := Array.size _) E8 (hB4.mono (by simp; omega))) (by simp) _
  have bo11 := bo10.set1 (.slice A10 (a.fracs.length + b.fracs.length) c10)
  have o11 := o4.setOther (p := ⟨w.heap.size + 3, 1, none⟩) (fun e => by have := (o4.lt (w.heap.size + 3) e).1; omega) (.slice A10 (a.fracs.length + b.fracs.length) c10)
  have i11 := (i9.below hB4).setOther (p := ⟨w.heap.size + 3, 1, none⟩) bo10.cell1 (by simp) (.slice A10 (a.fracs.length + b.fracs.length) c10)
  have q1 := bo10.frozen0 1
  have q2 := bo10.cell1
  have q3 := bo11.cell1
  have q5 := bo11.cell0
  have q4 : w.heap.size + 3 < w4.heap.size := by omega
  have hnm : NmAt (w4.setCell ⟨w.heap.size + 3, 1, none⟩ (.slice A10 (a.fracs.length + b.fracs.length) c10)) (.agg #[.slice A6 (a.ints.length + b.ints.length) c6, .slice A10 (a.fracs.length + b.fracs.length) c10]) ⟨a.ints ++ b.ints, a.fracs ++ b.fracs⟩ :=
    ⟨A6, c6, A10, c10, by simp, i11.mono (by simp [World.setCell]; omega), o11.at_.2⟩
  clear hB4 o4 o9 bo9 i9
  go_wp2_with fail
  refine (makeR_any _ _ _ hnm ((cat_sz hs hs').mono (by omega))).mono ?_
  rintro e w9 ⟨r, rfl, hr, hE9⟩
  have E12 := E10.trans hE9
  have hD : NmAt w9 r (orR a b) := hr
  clear hnm E10 hE9 E8 E6 E5 hr
  have hE9 := E12
  have hb3 := BR.out.ext hE9
  obtain ⟨Ar, cr, Ar', cr', rfl, hr1, hr2⟩ := hD
  have hfin := nm_store (c := cr) (c' := cr') hb3 hr1 hr2 (HE.out.trans hE9) (by omega)
  have z0 := hb3.cell0
  have z1 := hb3.cell1
  have z2 := hb3.frozen0
  have z3 := fun u => (hb3.set0 u).frozen0 1
  have z4 := fun u => (hb3.set0 u).cell1
  obtain ⟨n1, n2, n3, n4⟩ := hfin
  have N1 := Lib.hid n1
  have N2 := Lib.hid n2
  clear n1 n2 hr1 hr2 hE9 hb3
  go_wp2
  exact bodyPost_ret (v := .agg #[.slice Ar (orR a b).ints.length cr, .slice Ar' (orR a b).fracs.length cr']) (by simp [results, Try.results42, go_sem, n3, n4]) rfl ⟨_, rfl, N1.out, N2.out⟩
end Go.Proofs.Ytaianhhmmacblaa
