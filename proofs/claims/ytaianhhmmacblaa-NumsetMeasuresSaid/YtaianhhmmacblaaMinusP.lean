import Derived.Test.YtaianhhmmacblaaNotP
import Derived.Test.YtaianhhmmacblaaOrP
/-
  The program's Minus, Subset.
-/
namespace Go.Proofs.Ytaianhhmmacblaa
open Go.RowKit

theorem notP_sz {n : Nat} {a : Nm} (hs : Sz n a) : Sz (n + 1) (notP a) := by
  have szm := makeR_sz hs
  exact makeR_sz (d := ⟨pgaps (fun u => u + 1) (fun u => u - 1) (makeR a).ints (-100000000000) 100000000000, pgaps afterI beforeI (makeR a).fracs (-999999999999999) 999999999999999⟩)
    ⟨Nat.le_trans (pgaps_len _ _ _ _ _) (by have := szm.1; omega), Nat.le_trans (pgaps_len _ _ _ _ _) (by have := szm.2; omega)⟩
theorem notP_inr (a : Nm) : InR (notP a).fracs := InR.of_bdd (makeR_bddF _)
theorem andP_inr (a b : Nm) : InR (andP a b).fracs := InR.of_bdd (makeR_bddF _)
theorem andP_sz {n m : Nat} {a b : Nm} (hs : Sz n a) (hs' : Sz m b) : Sz (n * m) (andP a b) :=
  makeR_sz (d := ⟨commonL (makeR a).ints (makeR b).ints, commonL (makeR a).fracs (makeR b).fracs⟩)
    ⟨Nat.le_trans (commonL_len _ _) (Nat.mul_le_mul (makeR_sz hs).1 (makeR_sz hs').1), Nat.le_trans (commonL_len _ _) (Nat.mul_le_mul (makeR_sz hs).2 (makeR_sz hs').2)⟩
theorem minusP_sz {a b : Nm} (hs : Sz 900 a) (hs' : Sz 900 b) : Sz 1000000 (minusP a b) := (andP_sz hs (notP_sz hs')).mono (by omega)

set_option maxRecDepth 100000 in
set_option maxHeartbeats 1000000 in
theorem minusP_any (w : World) (v0 : Value) (a : Nm) (h0 : NmAt w v0 a) (v1 : Value) (b : Nm) (h1 : NmAt w v1 b) (hs : Sz 900 a) (hs' : Sz 900 b) (hr : InR a.fracs) (hr' : InR b.fracs) :
    Calls Try.prog 44 #[v0, v1] w fun e w' => ∃ r, e = .returned r ∧ NmAt w' r (minusP a b) ∧ Ext w w' := by
  have g0 := h0
  obtain ⟨A0, c0, B0, e0, rfl, x0, y0⟩ := g0
  have g1 := h1
  obtain ⟨A1, c1, B1, e1, rfl, x1, y1⟩ := g1
  go_enter Try.func44, Try.ntmps44
  go_wp2
  obtain ⟨W, hW⟩ : ∃ W, W = (((w.alloc (.cells #[.slice A0 a.ints.length c0, .slice B0 a.fracs.length e0] 24)).alloc (.cells #[.slice A1 b.ints.length c1, .slice B1 b.fracs.length e1] 24)).alloc (.cells #[.slice none 0 0, .slice none 0 0] 24)) := ⟨_, rfl⟩
  have b0 : BlkN W w.heap.size (.slice A0 a.ints.length c0) (.slice B0 a.fracs.length e0) := by rw [hW]; simpa using ((BlkN.new w (.slice A0 a.ints.length c0) (.slice B0 a.fracs.length e0)).alloc _).alloc _
  have b1 : BlkN W (w.heap.size + 1) (.slice A1 b.ints.length c1) (.slice B1 b.fracs.length e1) := by rw [hW]; simpa using (BlkN.new (w.alloc (.cells #[.slice A0 a.ints.length c0, .slice B0 a.fracs.length e0] 24)) (.slice A1 b.ints.length c1) (.slice B1 b.fracs.length e1)).alloc _
  have br : BlkN W (w.heap.size + 2) (.slice none 0 0) (.slice none 0 0) := by rw [hW]; simpa using BlkN.new ((w.alloc (.cells #[.slice A0 a.ints.length c0, .slice B0 a.fracs.length e0] 24)).alloc (.cells #[.slice A1 b.ints.length c1, .slice B1 b.fracs.length e1] 24)) (.slice none 0 0) (.slice none 0 0)
  have hEW : Ext w W := by rw [hW]; exact (((Ext.refl w).alloc _).alloc _).alloc _
  have k0 := h0.ext hEW
  have k1 := h1.ext hEW
  rw [← hW]
  have f0a := fun w' (h : Ext W w') => (b0.ext h).cell0
  have f0b := fun w' (h : Ext W w') => (b0.ext h).cell1
  have f1a := fun w' (h : Ext W w') => (b1.ext h).cell0
  have f1b := fun w' (h : Ext W w') => (b1.ext h).cell1
  have K0 := Lib.hid k0
  have K1 := Lib.hid k1
  have BR := Lib.hid br
  have HE := Lib.hid hEW
  clear hW hEW b0 h0 k0 x0 y0 b1 h1 k1 x1 y1 br
  refine wp_region_rel (E := Ext) (m := 4) (by kernel_rfl) rfl (by decide) rfl (by kernel_rfl) (by kernel_rfl) ((Ext.refl _).drawn _) Ext.refl (fun _ _ _ => Ext.trans) ?_
  simp only [List.take_succ_cons, List.take_zero]
  apply rel_pure
  · intro act w' K' hE he hK
    simp [Oper.looksAt, Op.operands] at he
    go_simp
    exact hK _ rfl
  apply rel_pure
  · intro act w' K' hE he hK
    simp [Oper.looksAt, Op.operands, upd] at he
    go_simp
    exact hK _ rfl
  refine rel_any (fun v w => NmAt w v (notP b)) (fun _ _ _ h hE => NmAt.ext h hE) ?_ ?_
  · intro act w' K' hE he hK
    simp [Oper.looksAt, Op.operands, Call.operands, upd] at he
    go_simp
    refine (notP_any _ _ b (K1.out.ext hE) (hs'.mono (by omega)) hr').mono ?_
    rintro e w'' ⟨r, rfl, hr, hE'⟩
    exact hK _ _ hE' hr
  refine rel_any (fun v w => NmAt w v (minusP a b)) (fun _ _ _ h hE => NmAt.ext h hE) ?_ ?_
  · intro act w' K' hE he hK
    simp [Oper.looksAt, Op.operands, Call.operands, upd] at he
    go_simp
    refine (andP_any _ _ a (K0.out.ext hE) _ (notP b) he.2 (hs.mono (by omega)) ((notP_sz hs').mono (by omega)) hr (notP_inr b)).mono ?_
    rintro e w'' ⟨r, rfl, hr, hE'⟩
    exact hK _ _ hE' hr
  refine relSeq_nil fun w3 hE3 => ?_
  simp only [fin, List.nil_append, List.cons_append]
  rintro _ rfl _ rfl q2 u2 q3 u3
  have br := BR.out
  have hE0 := HE.out
  obtain ⟨Ar, cr, Ar', cr', rfl, hr1, hr2⟩ := u3
  have hb3 := br.ext hE3
  have hfin := nm_store (c := cr) (c' := cr') hb3 hr1 hr2 (hE0.trans hE3) (by omega)
  have z0 := hb3.cell0
  have z1 := hb3.cell1
  have z2 := hb3.frozen0
  have z3 := fun u => (hb3.set0 u).frozen0 1
  have z4 := fun u => (hb3.set0 u).cell1
  obtain ⟨n1, n2, n3, n4⟩ := hfin
  have N1 := Lib.hid n1
  have N2 := Lib.hid n2
  clear n1 n2 br hE0 hr1 hr2 hE3
  simp only [Act.put]
  simp
  go_wp2
  (try apply_assumption)
  (try go_wp2)
  exact bodyPost_ret (v := .agg #[.slice Ar (minusP a b).ints.length cr, .slice Ar' (minusP a b).fracs.length cr']) (by simp [results, Try.results44, go_sem, n3, n4]) rfl ⟨_, rfl, N1.out, N2.out⟩

set_option maxRecDepth 100000 in
set_option maxHeartbeats 1000000 in
theorem subsetP_any (w : World) (v0 : Value) (a : Nm) (h0 : NmAt w v0 a) (v1 : Value) (b : Nm) (h1 : NmAt w v1 b) (hs : Sz 900 a) (hs' : Sz 900 b) (hr : InR a.fracs) (hr' : InR b.fracs) :
    Calls Try.prog 46 #[v0, v1] w fun e w' => e = .returned (.bool (sameN (makeR (minusP a b)) ⟨[], []⟩)) ∧ Ext w w' := by
  have g0 := h0
  obtain ⟨A0, c0, B0, e0, rfl, x0, y0⟩ := g0
  have g1 := h1
  obtain ⟨A1, c1, B1, e1, rfl, x1, y1⟩ := g1
  have b0 : BlkN ((w.alloc (.cells #[.slice A0 a.ints.length c0, .slice B0 a.fracs.length e0] 24)).alloc (.cells #[.slice A1 b.ints.length c1, .slice B1 b.fracs.length e1] 24)) w.heap.size (.slice A0 a.ints.length c0) (.slice B0 a.fracs.length e0) := by simpa using (BlkN.new w (.slice A0 a.ints.length c0) (.slice B0 a.fracs.length e0)).alloc _
  have b1 : BlkN ((w.alloc (.cells #[.slice A0 a.ints.length c0, .slice B0 a.fracs.length e0] 24)).alloc (.cells #[.slice A1 b.ints.length c1, .slice B1 b.fracs.length e1] 24)) (w.heap.size + 1) (.slice A1 b.ints.length c1) (.slice B1 b.fracs.length e1) := by simpa using BlkN.new (w.alloc (.cells #[.slice A0 a.ints.length c0, .slice B0 a.fracs.length e0] 24)) (.slice A1 b.ints.length c1) (.slice B1 b.fracs.length e1)
  have hEW : Ext w ((w.alloc (.cells #[.slice A0 a.ints.length c0, .slice B0 a.fracs.length e0] 24)).alloc (.cells #[.slice A1 b.ints.length c1, .slice B1 b.fracs.length e1] 24)) := ((Ext.refl w).alloc _).alloc _
  have k0 := h0.ext hEW
  have k1 := h1.ext hEW
  have f0a := fun w' (h : Ext ((w.alloc (.cells #[.slice A0 a.ints.length c0, .slice B0 a.fracs.length e0] 24)).alloc (.cells #[.slice A1 b.ints.length c1, .slice B1 b.fracs.length e1] 24)) w') => (b0.ext h).cell0
  have f0b := fun w' (h : Ext ((w.alloc (.cells #[.slice A0 a.ints.length c0, .slice B0 a.fracs.length e0] 24)).alloc (.cells #[.slice A1 b.ints.length c1, .slice B1 b.fracs.length e1] 24)) w') => (b0.ext h).cell1
  have f1a := fun w' (h : Ext ((w.alloc (.cells #[.slice A0 a.ints.length c0, .slice B0 a.fracs.length e0] 24)).alloc (.cells #[.slice A1 b.ints.length c1, .slice B1 b.fracs.length e1] 24)) w') => (b1.ext h).cell0
  have f1b := fun w' (h : Ext ((w.alloc (.cells #[.slice A0 a.ints.length c0, .slice B0 a.fracs.length e0] 24)).alloc (.cells #[.slice A1 b.ints.length c1, .slice B1 b.fracs.length e1] 24)) w') => (b1.ext h).cell1
  have K0 := Lib.hid k0
  have K1 := Lib.hid k1
  have si0 : SpAt ((w.alloc (.cells #[.slice A0 a.ints.length c0, .slice B0 a.fracs.length e0] 24)).alloc (.cells #[.slice A1 b.ints.length c1, .slice B1 b.fracs.length e1] 24)) (.slice A0 a.ints.length c0) a.ints := ⟨A0, c0, rfl, x0.ext hEW⟩
  have sf0 : SpAt ((w.alloc (.cells #[.slice A0 a.ints.length c0, .slice B0 a.fracs.length e0] 24)).alloc (.cells #[.slice A1 b.ints.length c1, .slice B1 b.fracs.length e1] 24)) (.slice B0 a.fracs.length e0) a.fracs := ⟨B0, e0, rfl, y0.ext hEW⟩
  have SI0 := Lib.hid si0
  have SF0 := Lib.hid sf0
  clear si0 sf0
  have si1 : SpAt ((w.alloc (.cells #[.slice A0 a.ints.length c0, .slice B0 a.fracs.length e0] 24)).alloc (.cells #[.slice A1 b.ints.length c1, .slice B1 b.fracs.length e1] 24)) (.slice A1 b.ints.length c1) b.ints := ⟨A1, c1, rfl, x1.ext hEW⟩
  have sf1 : SpAt ((w.alloc (.cells #[.slice A0 a.ints.length c0, .slice B0 a.fracs.length e0] 24)).alloc (.cells #[.slice A1 b.ints.length c1, .slice B1 b.fracs.length e1] 24)) (.slice B1 b.fracs.length e1) b.fracs := ⟨B1, e1, rfl, y1.ext hEW⟩
  have SI1 := Lib.hid si1
  have SF1 := Lib.hid sf1
  clear si1 sf1
  have HE := Lib.hid hEW
  clear hEW b0 h0 k0 x0 y0 b1 h1 k1 x1 y1
  go_enter Try.func46, Try.ntmps46
  go_wp2_with fail
  refine (minusP_any _ _ a K0.out _ b K1.out hs hs' hr hr').mono ?_
  rintro e w1 ⟨r, rfl, hr1, hE1⟩
  have HR := Lib.hid hr1
  clear hr1
  go_wp2_with fail
  refine (emptyP_any _ _ _ HR.out (minusP_sz hs hs') (andP_inr _ _)).mono ?_
  rintro e w2 ⟨rfl, hE2⟩
  have HF := Lib.hid ((HE.out.trans hE1).trans hE2)
  clear hE1 hE2
  go_wp2
  go_ret
  exact ⟨rfl, HF.out⟩

end Go.Proofs.Ytaianhhmmacblaa
