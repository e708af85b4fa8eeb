import Derived.Test.YtaianhhmmacblaaRef4
import Derived.Test.YtaianhhmmacblaaSame2
/-
  The reference's Valid, Not, And, Minus, Subset, All, Ints, Or.
-/
namespace Go.Proofs.Ytaianhhmmacblaa
open Go.RowKit

set_option maxRecDepth 100000 in
set_option maxHeartbeats 1000000 in
theorem validNR_any (w : World) (v0 : Value) (d : Nm) (h0 : NmAt w v0 d) (hs : Sz 1000000 d) :
    Calls Try.prog 36 #[v0] w fun e w' => e = .returned (.bool (validNR d)) ∧ Ext w w' := by
  have g0 := h0
  obtain ⟨A0, c0, B0, e0, rfl, x0, y0⟩ := g0
  go_enter Try.func36, Try.ntmps36
  go_wp2
  obtain ⟨W, hW⟩ : ∃ W, W = (w.alloc (.cells #[.slice A0 d.ints.length c0, .slice B0 d.fracs.length e0] 24)) := ⟨_, rfl⟩
  have b0 : BlkN W w.heap.size (.slice A0 d.ints.length c0) (.slice B0 d.fracs.length e0) := by rw [hW]; simpa using BlkN.new w (.slice A0 d.ints.length c0) (.slice B0 d.fracs.length e0)
  have hEW : Ext w W := by rw [hW]; exact (Ext.refl w).alloc _
  have k0 := h0.ext hEW
  rw [← hW]
  have f0a := fun w' (h : Ext W w') => (b0.ext h).cell0
  have f0b := fun w' (h : Ext W w') => (b0.ext h).cell1
  have K0 := Lib.hid k0
  have HE := Lib.hid hEW
  clear hW hEW b0 h0 k0 x0 y0
  refine wp_region_rel (E := Ext) (m := 5) (by kernel_rfl) rfl (by decide) rfl (by kernel_rfl) (by kernel_rfl) ((Ext.refl _).drawn _) Ext.refl (fun _ _ _ => Ext.trans) ?_
  simp only [List.take_succ_cons, List.take_zero]
  apply rel_pure
  · intro a w' K' hE he hK
    simp [Oper.looksAt, Op.operands] at he
    go_simp
    exact hK _ rfl
  apply rel_pure
  · intro a w' K' hE he hK
    simp [Oper.looksAt, Op.operands, upd] at he
    go_simp
    exact hK _ rfl
  refine rel_any (fun v w => NmAt w v (makeR d)) (fun _ _ _ h hE => NmAt.ext h hE) ?_ ?_
  · intro a w' K' hE he hK
    simp [Oper.looksAt, Op.operands, Call.operands, upd] at he
    go_simp
    refine (makeR_any _ _ d (K0.out.ext hE) hs).mono ?_
    rintro e w'' ⟨r, rfl, hr, hE'⟩
    exact hK _ _ hE' hr
  refine rel_any (fun v _ => v = .bool (validNR d)) (fun _ _ _ h _ => h) ?_ ?_
  · intro a w' K' hE he hK
    simp [Oper.looksAt, Op.operands, Call.operands, upd] at he
    go_simp
    refine (sameR_any _ _ d (K0.out.ext hE) _ (makeR d) he.2 (hs.mono (by omega)) ((makeR_sz hs).mono (by omega))).mono ?_
    rintro e w'' ⟨rfl, hE'⟩
    exact hK _ _ hE' rfl
  apply rel_pure
  · intro a w' K' hE he hK
    simp [Oper.looksAt, Op.operands, upd] at he
    go_simp
    exact hK _ rfl
  refine relSeq_nil fun w3 hE3 => ?_
  simp only [fin, List.nil_append, List.cons_append]
  rintro _ rfl _ rfl q2 u2 _ rfl _ rfl
  have hE0 := HE.out
  have hE5 := hE0.trans hE3
  simp only [Act.put]
  simp
  go_wp2
  (try apply_assumption)
  (try go_wp2)
  go_ret
  exact ⟨rfl, hE5⟩

set_option maxRecDepth 100000 in
set_option maxHeartbeats 1000000 in
theorem notR_any (w : World) (v0 : Value) (d : Nm) (h0 : NmAt w v0 d) (hs : Sz 1000000 d) :
    Calls Try.prog 43 #[v0] w fun e w' => ∃ r, e = .returned r ∧ NmAt w' r (notR d) ∧ Ext w w' := by
  have g0 := h0
  obtain ⟨A0, c0, B0, e0, rfl, x0, y0⟩ := g0
  go_enter Try.func43, Try.ntmps43
  go_wp2
  obtain ⟨W, hW⟩ : ∃ W, W = ((w.alloc (.cells #[.slice A0 d.ints.length c0, .slice B0 d.fracs.length e0] 24)).alloc (.cells #[.slice none 0 0, .slice none 0 0] 24)) := ⟨_, rfl⟩
  have b0 : BlkN W w.heap.size (.slice A0 d.ints.length c0) (.slice B0 d.fracs.length e0) := by rw [hW]; simpa using (BlkN.new w (.slice A0 d.ints.length c0) (.slice B0 d.fracs.length e0)).alloc _
  have br : BlkN W (w.heap.size + 1) (.slice none 0 0) (.slice none 0 0) := by rw [hW]; simpa using BlkN.new (w.alloc (.cells #[.slice A0 d.ints.length c0, .slice B0 d.fracs.length e0] 24)) (.slice none 0 0) (.slice none 0 0)
  have hEW : Ext w W := by rw [hW]; exact ((Ext.refl w).alloc _).alloc _
  have k0 := h0.ext hEW
  rw [← hW]
  have f0a := fun w' (h : Ext W w') => (b0.ext h).cell0
  have f0b := fun w' (h : Ext W w') => (b0.ext h).cell1
  have K0 := Lib.hid k0
  have BR := Lib.hid br
  have HE := Lib.hid hEW
  clear hW hEW b0 h0 k0 x0 y0 br
  refine wp_region_rel (E := Ext) (m := 7) (by kernel_rfl) rfl (by decide) rfl (by kernel_rfl) (by kernel_rfl) ((Ext.refl _).drawn _) Ext.refl (fun _ _ _ => Ext.trans) ?_
  simp only [List.take_succ_cons, List.take_zero]
  apply rel_pure
  · intro a w' K' hE he hK
    simp [Oper.looksAt, Op.operands] at he
    go_simp
    exact hK _ rfl
  refine rel_any (fun v w => SpAt w v (intsR d.ints)) (fun _ _ _ h hE => SpAt.ext h hE) ?_ ?_
  · intro a w' K' hE he hK
    simp [Oper.looksAt, Op.operands, Call.operands, upd] at he
    go_simp
    refine (intsR_any _ _ d (K0.out.ext hE) (by have := hs.1; omega)).mono ?_
    rintro e w'' ⟨r, rfl, hr, hE'⟩
    exact hK _ _ hE' hr
  refine rel_any (fun v w => SpAt w v (gapsR (intsR d.ints) (-100000000000) 100000000000)) (fun _ _ _ h hE => SpAt.ext h hE) ?_ ?_
  · intro a w' K' hE he hK
    simp [Oper.looksAt, Op.operands, Call.operands, upd] at he
    go_simp
    refine (gapsR_v _ _ _ _ _ he (by have := intsR_len d.ints; have := hs.1; omega) (intsR_bd _) (by omega) (by omega)).mono ?_
    rintro e w'' ⟨r, rfl, hr, hE'⟩
    exact hK _ _ hE' hr
  apply rel_pure
  · intro a w' K' hE he hK
    simp [Oper.looksAt, Op.operands, upd] at he
    go_simp
    exact hK _ rfl
  refine rel_any (fun v w => SpAt w v (fracsR d.fracs)) (fun _ _ _ h hE => SpAt.ext h hE) ?_ ?_
  · intro a w' K' hE he hK
    simp [Oper.looksAt, Op.operands, Call.operands, upd] at he
    go_simp
    refine (fracsR_any _ _ d (K0.out.ext hE) (by have := hs.2; omega)).mono ?_
    rintro e w'' ⟨r, rfl, hr, hE'⟩
    exact hK _ _ hE' hr
  refine rel_any (fun v w => SpAt w v (gapsR (fracsR d.fracs) (-999900000000000) 999899999999999)) (fun _ _ _ h hE => SpAt.ext h hE) ?_ ?_
  · intro a w' K' hE he hK
    simp [Oper.looksAt, Op.operands, Call.operands, upd] at he
    go_simp
    refine (gapsR_v _ _ _ _ _ he (by have := fracsR_len d.fracs; have := hs.2; omega) (fracsR_bd _) (by omega) (by omega)).mono ?_
    rintro e w'' ⟨r, rfl, hr, hE'⟩
    exact hK _ _ hE' hr
  refine rel_any (fun v w => NmAt w v (notR d)) (fun _ _ _ h hE => NmAt.ext h hE) ?_ ?_
  · intro a w' K' hE he hK
    simp [Oper.looksAt, Op.operands, Call.operands, upd] at he
    go_simp
    refine (ofR_v _ _ _ _ _ he.1 he.2 (by have := gapsR_len (fracsR d.fracs) (-999900000000000) 999899999999999; have := fracsR_len d.fracs; have := hs.2; omega) (fun s hsm => by have := gapsR_rng 1000000000000001 _ _ _ (fracsR_rng d.fracs) (by omega) (by omega) (by omega) (by omega) s hsm; omega)).mono ?_
    rintro e w'' ⟨r, rfl, hr, hE'⟩
    exact hK _ _ hE' hr
  refine relSeq_nil fun w3 hE3 => ?_
  simp only [fin, List.nil_append, List.cons_append]
  rintro _ rfl q1 u1 q2 u2 _ rfl q4 u4 q5 u5 q6 u6
  have br := BR.out
  have hE0 := HE.out
  obtain ⟨Ar, cr, Ar', cr', rfl, hr1, hr2⟩ := u6
  have hb3 := br.ext hE3
  have hfin := nm_store (c := cr) (c' := cr') hb3 hr1 hr2 (hE0.trans hE3) (by omega)
  have z0 := hb3.cell0
  have z1 := hb3.cell1
  have z2 := hb3.frozen0
  have z3 := fun u => (hb3.set0 u).frozen0 1
  have z4 := fun u => (hb3.set0 u).cell1
  obtain ⟨n1, n2, n3, n4⟩ := hfin
  have N1 := Lib.hid n1
  have N2 := Lib.hid n2
  clear n1 n2 br hE0 hr1 hr2 hE3
  simp only [Act.put]
  simp
  go_wp2
  (try apply_assumption)
  (try go_wp2)
  exact bodyPost_ret (v := .agg #[.slice Ar (notR d).ints.length cr, .slice Ar' (notR d).fracs.length cr']) (by simp [results, Try.results43, go_sem, n3, n4]) rfl ⟨_, rfl, N1.out, N2.out⟩

end Go.Proofs.Ytaianhhmmacblaa
