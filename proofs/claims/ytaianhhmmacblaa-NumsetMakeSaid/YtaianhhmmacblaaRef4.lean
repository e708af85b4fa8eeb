import Derived.Test.YtaianhhmmacblaaRef1
import Derived.Test.YtaianhhmmacblaaRef2
import Derived.Test.YtaianhhmmacblaaRef3
/-
  The reference's Make.
-/
namespace Go.Proofs.Ytaianhhmmacblaa
open Go.RowKit

set_option maxRecDepth 100000 in
set_option maxHeartbeats 1000000 in
theorem makeR_any (w : World) (v0 : Value) (d : Nm) (h0 : NmAt w v0 d) (hs : Sz 1000000 d) :
    Calls Try.prog 34 #[v0] w fun e w' => ∃ r, e = .returned r ∧ NmAt w' r (makeR d) ∧ Ext w w' := by
  have g0 := h0
  obtain ⟨A0, c0, B0, e0, rfl, x0, y0⟩ := g0
  go_enter Try.func34, Try.ntmps34
  go_wp2
  obtain ⟨W, hW⟩ : ∃ W, W = ((w.alloc (.cells #[.slice A0 d.ints.length c0, .slice B0 d.fracs.length e0] 24)).alloc (.cells #[.slice none 0 0, .slice none 0 0] 24)) := ⟨_, rfl⟩
  have b0 : BlkN W w.heap.size (.slice A0 d.ints.length c0) (.slice B0 d.fracs.length e0) := by rw [hW]; simpa using (BlkN.new w (.slice A0 d.ints.length c0) (.slice B0 d.fracs.length e0)).alloc _
  have br : BlkN W (w.heap.size + 1) (.slice none 0 0) (.slice none 0 0) := by rw [hW]; simpa using BlkN.new (w.alloc (.cells #[.slice A0 d.ints.length c0, .slice B0 d.fracs.length e0] 24)) (.slice none 0 0) (.slice none 0 0)
  have hEW : Ext w W := by rw [hW]; exact ((Ext.refl w).alloc _).alloc _
  have k0 := h0.ext hEW
  rw [← hW]
  have f0a := fun w' (h : Ext W w') => (b0.ext h).cell0
  have f0b := fun w' (h : Ext W w') => (b0.ext h).cell1
  have K0 := Lib.hid k0
  have BR := Lib.hid br
  have HE := Lib.hid hEW
  clear hW hEW b0 h0 k0 x0 y0 br
  refine wp_region_rel (E := Ext) (m := 5) (n := 8) (by kernel_rfl) rfl (by decide) rfl (by kernel_rfl) (by kernel_rfl) ((Ext.refl _).drawn _) Ext.refl (fun _ _ _ => Ext.trans) ?_
  simp only [List.take_succ_cons, List.take_zero]
  apply rel_pure
  · intro a w' K' hE he hK
    simp [Oper.looksAt, Op.operands] at he
    go_simp
    exact hK _ rfl
  refine rel_any (fun v w => SpAt w v (intsR d.ints)) (fun _ _ _ h hE => SpAt.ext h hE) ?_ ?_
  · intro a w' K' hE he hK
    simp [Oper.looksAt, Op.operands, Call.operands, upd] at he
    go_simp
    refine (intsR_any _ _ d (K0.out.ext hE) (by have := hs.1; omega)).mono ?_
    rintro e w'' ⟨r, rfl, hr, hE'⟩
    exact hK _ _ hE' hr
  apply rel_pure
  · intro a w' K' hE he hK
    simp [Oper.looksAt, Op.operands, upd] at he
    go_simp
    exact hK _ rfl
  refine rel_any (fun v w => SpAt w v (fracsR d.fracs)) (fun _ _ _ h hE => SpAt.ext h hE) ?_ ?_
  · intro a w' K' hE he hK
    simp [Oper.looksAt, Op.operands, Call.operands, upd] at he
    go_simp
    refine (fracsR_any _ _ d (K0.out.ext hE) (by have := hs.2; omega)).mono ?_
    rintro e w'' ⟨r, rfl, hr, hE'⟩
    exact hK _ _ hE' hr
  refine rel_any (fun v w => NmAt w v (makeR d)) (fun _ _ _ h hE => NmAt.ext h hE) ?_ ?_
  · intro a w' K' hE he hK
    simp [Oper.looksAt, Op.operands, Call.operands, upd] at he
    go_simp
    refine (ofR_v _ _ _ _ _ he.1 he.2 (by have := fracsR_len d.fracs; have := hs.2; omega) (fun s hsm => by have := fracsR_rng _ s hsm; omega)).mono ?_
    rintro e w'' ⟨r, rfl, hr, hE'⟩
    exact hK _ _ hE' hr
  refine relSeq_nil fun w3 hE3 => ?_
  simp only [fin, List.nil_append, List.cons_append]
  rintro _ rfl q1 u1 _ rfl q3 u3 q4 u4
  have br := BR.out
  have hE0 := HE.out
  obtain ⟨Ar, cr, Ar', cr', rfl, hr1, hr2⟩ := u4
  have hb3 := br.ext hE3
  have hfin := nm_store (c := cr) (c' := cr') hb3 hr1 hr2 (hE0.trans hE3) (by omega)
  have z0 := hb3.cell0
  have z1 := hb3.cell1
  have z2 := hb3.frozen0
  have z3 := fun u => (hb3.set0 u).frozen0 1
  have z4 := fun u => (hb3.set0 u).cell1
  obtain ⟨n1, n2, n3, n4⟩ := hfin
  have N1 := Lib.hid n1
  have N2 := Lib.hid n2
  clear n1 n2 br hE0 hr1 hr2 hE3
  simp only [Act.put]
  simp
  go_wp2
  (try apply_assumption)
  (try go_wp2)
  exact bodyPost_ret (v := .agg #[.slice Ar (makeR d).ints.length cr, .slice Ar' (makeR d).fracs.length cr']) (by simp [results, Try.results34, go_sem, n3, n4]) rfl ⟨_, rfl, N1.out, N2.out⟩

end Go.Proofs.Ytaianhhmmacblaa
