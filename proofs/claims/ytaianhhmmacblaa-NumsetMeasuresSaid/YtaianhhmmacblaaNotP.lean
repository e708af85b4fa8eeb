import Derived.Test.YtaianhhmmacblaaCollect
import Derived.Test.YtaianhhmmacblaaAndP
/-
  The program's Not.
-/
namespace Go.Proofs.Ytaianhhmmacblaa
open Go.RowKit


set_option maxRecDepth 100000 in
set_option maxHeartbeats 1000000 in
theorem notP_any (w : World) (v0 : Value) (a : Nm) (h0 : NmAt w v0 a) (hs : Sz 900000 a) (hr : InR a.fracs) :
    Calls Try.prog 30 #[v0] w fun e w' => ∃ r, e = .returned r ∧ NmAt w' r (notP a) ∧ Ext w w' := by
  have g0 := h0
  obtain ⟨A0, c0, B0, e0, rfl, x0, y0⟩ := g0
  have b0 : BlkN ((w.alloc (.cells #[.slice A0 a.ints.length c0, .slice B0 a.fracs.length e0] 24)).alloc (.cells #[.slice none 0 0, .slice none 0 0] 24)) w.heap.size (.slice A0 a.ints.length c0) (.slice B0 a.fracs.length e0) := by simpa using (BlkN.new w (.slice A0 a.ints.length c0) (.slice B0 a.fracs.length e0)).alloc _
  have br : BlkN ((w.alloc (.cells #[.slice A0 a.ints.length c0, .slice B0 a.fracs.length e0] 24)).alloc (.cells #[.slice none 0 0, .slice none 0 0] 24)) (w.heap.size + 1) (.slice none 0 0) (.slice none 0 0) := by simpa using BlkN.new (w.alloc (.cells #[.slice A0 a.ints.length c0, .slice B0 a.fracs.length e0] 24)) (.slice none 0 0) (.slice none 0 0)
  have hEW : Ext w ((w.alloc (.cells #[.slice A0 a.ints.length c0, .slice B0 a.fracs.length e0] 24)).alloc (.cells #[.slice none 0 0, .slice none 0 0] 24)) := ((Ext.refl w).alloc _).alloc _
  have k0 := h0.ext hEW
  have f0a := fun w' (h : Ext ((w.alloc (.cells #[.slice A0 a.ints.length c0, .slice B0 a.fracs.length e0] 24)).alloc (.cells #[.slice none 0 0, .slice none 0 0] 24)) w') => (b0.ext h).cell0
  have f0b := fun w' (h : Ext ((w.alloc (.cells #[.slice A0 a.ints.length c0, .slice B0 a.fracs.length e0] 24)).alloc (.cells #[.slice none 0 0, .slice none 0 0] 24)) w') => (b0.ext h).cell1
  have K0 := Lib.hid k0
  have si0 : SpAt ((w.alloc (.cells #[.slice A0 a.ints.length c0, .slice B0 a.fracs.length e0] 24)).alloc (.cells #[.slice none 0 0, .slice none 0 0] 24)) (.slice A0 a.ints.length c0) a.ints := ⟨A0, c0, rfl, x0.ext hEW⟩
  have sf0 : SpAt ((w.alloc (.cells #[.slice A0 a.ints.length c0, .slice B0 a.fracs.length e0] 24)).alloc (.cells #[.slice none 0 0, .slice none 0 0] 24)) (.slice B0 a.fracs.length e0) a.fracs := ⟨B0, e0, rfl, y0.ext hEW⟩
  have SI0 := Lib.hid si0
  have SF0 := Lib.hid sf0
  clear si0 sf0
  have BR := Lib.hid br
  have HE := Lib.hid hEW
  clear hEW b0 h0 k0 x0 y0 br
  go_enter Try.func30, Try.ntmps30
  go_wp2_with fail
  refine (makeP_any _ _ a K0.out (hs.mono (by omega)) hr).mono ?_
  rintro e w1 ⟨r, rfl, ⟨A8, c8, B8, e8, rfl, i8, f8⟩, hE1⟩
  have I8 := Lib.hid i8
  have F8 := Lib.hid f8
  clear i8 f8
  go_wp2_with fail
  refine (allP_any _).mono ?_
  rintro e w2 ⟨r, rfl, ⟨A9, c9, B9, e9, rfl, i9, f9⟩, hE2⟩
  obtain ⟨b9, o9, rfl, hb9, p90, p91⟩ := i9.at_ (k := 0) (by decide)
  obtain ⟨b8, o8, rfl, hb8, p80, p81⟩ := f9.at_ (k := 0) (by decide)
  have l1 : allN.ints.length = 1 := rfl
  have l2 : allN.fracs.length = 1 := rfl
  have q1 : allN.ints[0] = (-100000000000, 100000000000) := rfl
  have q2 : allN.fracs[0] = (-999999999999999, 999999999999999) := rfl
  simp only [q1, Nat.zero_mul, Nat.add_zero] at p90 p91
  simp only [q2, Nat.zero_mul, Nat.add_zero] at p80 p81
  simp only [l1, l2]
  clear l1 l2 q1 q2 i9 f9
  go_wp2_with fail
  have hE0 := hE1.trans hE2
  have I8' := I8.out.ext hE2
  have F8' := F8.out.ext hE2
  obtain ⟨W, hW⟩ : ∃ W, W = (w2.alloc (.cells #[.slice A8 (makeR a).ints.length c8, .slice B8 (makeR a).fracs.length e8] 24)).alloc (.cells #[.slice (some ⟨b9, o9, none⟩) 1 c9, .slice (some ⟨b8, o8, none⟩) 1 e9] 24) := ⟨_, rfl⟩
  have hEW2 : Ext w2 W := by rw [hW]; exact ((Ext.refl _).alloc _).alloc _
  have b3 : BlkN W w2.heap.size (.slice A8 (makeR a).ints.length c8) (.slice B8 (makeR a).fracs.length e8) := by rw [hW]; exact (BlkN.new _ _ _).alloc _
  have b4 : BlkN W (w2.heap.size + 1) (.slice (some ⟨b9, o9, none⟩) 1 c9) (.slice (some ⟨b8, o8, none⟩) 1 e9) := by rw [hW]; simpa using BlkN.new (w2.alloc _) (.slice (some ⟨b9, o9, none⟩) 1 c9) (.slice (some ⟨b8, o8, none⟩) 1 e9)
  rw [← hW]
  have f3a := fun w' (h : Ext W w') => (b3.ext h).cell0
  have f3b := fun w' (h : Ext W w') => (b3.ext h).cell1
  have f4a := fun w' (h : Ext W w') => (b4.ext h).cell0
  have f4b := fun w' (h : Ext W w') => (b4.ext h).cell1
  have g90 := fun w' (h : Ext W w') => ((hEW2.trans h).cell ⟨b9, o9, none⟩ hb9).trans p90
  have g91 := fun w' (h : Ext W w') => ((hEW2.trans h).cell ⟨b9, o9 + 1, none⟩ hb9).trans p91
  have g80 := fun w' (h : Ext W w') => ((hEW2.trans h).cell ⟨b8, o8, none⟩ hb8).trans p80
  have g81 := fun w' (h : Ext W w') => ((hEW2.trans h).cell ⟨b8, o8 + 1, none⟩ hb8).trans p81
  have SI : Hid (SpAt W (.slice A8 (makeR a).ints.length c8) (makeR a).ints) := Lib.hid ⟨A8, c8, rfl, I8'.ext hEW2⟩
  have SF : Hid (SpAt W (.slice B8 (makeR a).fracs.length e8) (makeR a).fracs) := Lib.hid ⟨B8, e8, rfl, F8'.ext hEW2⟩
  have HEW := Lib.hid (hE0.trans hEW2)
  have szm := makeR_sz hs
  have bdi := makeR_bddI a
  have bdf := makeR_bddF a
  clear hW b3 b4 hEW2 p90 p91 p80 p81 I8' F8' hE0 hE1 hE2 I8 F8 f0a f0b SI0 SF0
  refine wp_region_rel (E := Ext) (m := 18) (by kernel_rfl) rfl (by decide) rfl (by kernel_rfl) (by kernel_rfl) ((Ext.refl _).drawn _) Ext.refl (fun _ _ _ => Ext.trans) ?_
  simp only [List.take_succ_cons, List.take_zero]
  apply rel_pure
  · intro act w' K' hE he hK
    simp [Oper.looksAt, Op.operands] at he
    go_simp
    exact hK _ rfl
  apply rel_pure
  · intro act w' K' hE he hK
    simp [Oper.looksAt, Op.operands, upd] at he
    go_simp
    exact hK _ rfl
  apply rel_pure
  · intro act w' K' hE he hK
    simp [Oper.looksAt, Op.operands, upd] at he
    go_simp
    exact hK _ rfl
  apply rel_pure
  · intro act w' K' hE he hK
    simp [Oper.looksAt, Op.operands, upd] at he
    go_simp
    exact hK _ rfl
  apply rel_pure
  · intro act w' K' hE he hK
    simp [Oper.looksAt, Op.operands, upd] at he
    go_simp
    exact hK _ rfl
  apply rel_pure
  · intro act w' K' hE he hK
    simp [Oper.looksAt, Op.operands, upd] at he
    go_simp
    exact hK _ rfl
  refine rel_any (GapV 65 66 (makeR a).ints (-100000000000) 100000000000) (GapV.stable _ _ _ _ _) ?_ ?_
  · intro act w' K' hE he hK
    simp [Oper.looksAt, Op.operands, Call.operands, upd] at he
    go_simp
    refine (gaps_any _ 65 66 _ (makeR a).ints (-100000000000) 100000000000 (SI.out.ext hE)).mono ?_
    rintro e w'' ⟨r, rfl, hr, hE'⟩
    exact hK _ _ hE' hr
  refine rel_any (fun v w => SpAt w v (pgaps (fun u => u + 1) (fun u => u - 1) (makeR a).ints (-100000000000) 100000000000)) (fun _ _ _ h hE => SpAt.ext h hE) ?_ ?_
  · intro act w' K' hE he hK
    simp [Oper.looksAt, Op.operands, Call.operands, upd] at he
    go_simp
    refine (collect_whole _ _ (makeR a).ints (-100000000000) 100000000000 (by have := szm.1; omega) bdi (by omega) he).mono ?_
    rintro e w'' ⟨r, rfl, hr, hE'⟩
    exact hK _ _ hE' hr
  apply rel_pure
  · intro act w' K' hE he hK
    simp [Oper.looksAt, Op.operands, upd] at he
    go_simp
    exact hK _ rfl
  apply rel_pure
  · intro act w' K' hE he hK
    simp [Oper.looksAt, Op.operands, upd] at he
    go_simp
    exact hK _ rfl
  apply rel_pure
  · intro act w' K' hE he hK
    simp [Oper.looksAt, Op.operands, upd] at he
    go_simp
    exact hK _ rfl
  apply rel_pure
  · intro act w' K' hE he hK
    simp [Oper.looksAt, Op.operands, upd] at he
    go_simp
    exact hK _ rfl
  apply rel_pure
  · intro act w' K' hE he hK
    simp [Oper.looksAt, Op.operands, upd] at he
    go_simp
    exact hK _ rfl
  apply rel_pure
  · intro act w' K' hE he hK
    simp [Oper.looksAt, Op.operands, upd] at he
    go_simp
    exact hK _ rfl
  refine rel_any (GapV 67 68 (makeR a).fracs (-999999999999999) 999999999999999) (GapV.stable _ _ _ _ _) ?_ ?_
  · intro act w' K' hE he hK
    simp [Oper.looksAt, Op.operands, Call.operands, upd] at he
    go_simp
    refine (gaps_any _ 67 68 _ (makeR a).fracs (-999999999999999) 999999999999999 (SF.out.ext hE)).mono ?_
    rintro e w'' ⟨r, rfl, hr, hE'⟩
    exact hK _ _ hE' hr
  refine rel_any (fun v w => SpAt w v (pgaps afterI beforeI (makeR a).fracs (-999999999999999) 999999999999999)) (fun _ _ _ h hE => SpAt.ext h hE) ?_ ?_
  · intro act w' K' hE he hK
    simp [Oper.looksAt, Op.operands, Call.operands, upd] at he
    go_simp
    refine (collect_after _ _ (makeR a).fracs (-999999999999999) 999999999999999 (by have := szm.2; omega) bdf (by omega) he).mono ?_
    rintro e w'' ⟨r, rfl, hr, hE'⟩
    exact hK _ _ hE' hr
  refine rel_any (fun v w => NmAt w v ⟨pgaps (fun u => u + 1) (fun u => u - 1) (makeR a).ints (-100000000000) 100000000000, pgaps afterI beforeI (makeR a).fracs (-999999999999999) 999999999999999⟩) (fun _ _ _ h hE => NmAt.ext h hE) ?_ ?_
  · intro act w' K' hE he hK
    simp [Oper.looksAt, Op.operands, upd] at he
    obtain ⟨⟨P1, p1, q1, r1⟩, ⟨P2, p2, q2, r2⟩⟩ := he
    go_simp
    exact hK _ _ (Ext.refl _) ⟨P1, p1, P2, p2, by simp, r1, r2⟩
  refine rel_any (fun v w => NmAt w v (notP a)) (fun _ _ _ h hE => NmAt.ext h hE) ?_ ?_
  · intro act w' K' hE he hK
    simp [Oper.looksAt, Op.operands, Call.operands, upd] at he
    go_simp
    refine (makeP_any _ _ ⟨pgaps (fun u => u + 1) (fun u => u - 1) (makeR a).ints (-100000000000) 100000000000, pgaps afterI beforeI (makeR a).fracs (-999999999999999) 999999999999999⟩ he ⟨Nat.le_trans (pgaps_len _ _ _ _ _) (by have := szm.1; omega), Nat.le_trans (pgaps_len _ _ _ _ _) (by have := szm.2; omega)⟩ (pgaps_inr _)).mono ?_
    rintro e w'' ⟨r, rfl, hr, hE'⟩
    exact hK _ _ hE' hr
  refine relSeq_nil fun w9 hE9 => ?_
  simp only [fin, List.nil_append, List.cons_append]
  rintro _ rfl _ rfl _ rfl _ rfl _ rfl _ rfl q4 u4 q5 u5 _ rfl _ rfl _ rfl _ rfl _ rfl _ rfl q9 u9 q10 u10 q11 u11 q12 u12
  obtain ⟨Ar, cr, Ar', cr', rfl, hr1, hr2⟩ := u12
  have hb3 := BR.out.ext (HEW.out.trans hE9)
  have hfin := nm_store (c := cr) (c' := cr') hb3 hr1 hr2 ((HE.out.trans HEW.out).trans hE9) (by omega)
  have z0 := hb3.cell0
  have z1 := hb3.cell1
  have z2 := hb3.frozen0
  have z3 := fun u => (hb3.set0 u).frozen0 1
  have z4 := fun u => (hb3.set0 u).cell1
  obtain ⟨n1, n2, n3, n4⟩ := hfin
  have NN1 := Lib.hid n1
  have NN2 := Lib.hid n2
  clear n1 n2 hr1 hr2 hE9 hb3 u4 u5 u9 u10 u11 f3a f3b f4a f4b g90 g91 g80 g81
  simp only [Act.put]
  simp
  go_wp2
  (try apply_assumption)
  (try go_wp2)
  exact bodyPost_ret (v := .agg #[.slice Ar (notP a).ints.length cr, .slice Ar' (notP a).fracs.length cr']) (by simp [results, Try.results30, go_sem, n3, n4]) rfl ⟨_, rfl, NN1.out, NN2.out⟩

end Go.Proofs.Ytaianhhmmacblaa
