import Derived.Test.YtaianhhmmacblaaLeastR
import Derived.Test.YtaianhhmmacblaaCmpP
/-
  The reference's Single, Compare.
-/
namespace Go.Proofs.Ytaianhhmmacblaa
open Go.RowKit

set_option maxRecDepth 100000 in
set_option maxHeartbeats 1000000 in
theorem singleR_any (w : World) (v0 : Value) (d : Nm) (h0 : NmAt w v0 d) (hs : Sz 400 d) :
    Calls Try.prog 23 #[v0] w fun e w' => e = .returned (.tuple #[.int .i64 (singleR d).1, .bool (singleR d).2]) ∧ Ext w w' := by
  have g0 := h0
  obtain ⟨A0, c0, B0, e0, rfl, x0, y0⟩ := g0
  have b0 : BlkN (w.alloc (.cells #[.slice A0 d.ints.length c0, .slice B0 d.fracs.length e0] 24)) w.heap.size (.slice A0 d.ints.length c0) (.slice B0 d.fracs.length e0) := by simpa using BlkN.new w (.slice A0 d.ints.length c0) (.slice B0 d.fracs.length e0)
  have hEW : Ext w (w.alloc (.cells #[.slice A0 d.ints.length c0, .slice B0 d.fracs.length e0] 24)) := (Ext.refl w).alloc _
  have k0 := h0.ext hEW
  have f0a := fun w' (h : Ext (w.alloc (.cells #[.slice A0 d.ints.length c0, .slice B0 d.fracs.length e0] 24)) w') => (b0.ext h).cell0
  have f0b := fun w' (h : Ext (w.alloc (.cells #[.slice A0 d.ints.length c0, .slice B0 d.fracs.length e0] 24)) w') => (b0.ext h).cell1
  have K0 := Lib.hid k0
  have si0 : SpAt (w.alloc (.cells #[.slice A0 d.ints.length c0, .slice B0 d.fracs.length e0] 24)) (.slice A0 d.ints.length c0) d.ints := ⟨A0, c0, rfl, x0.ext hEW⟩
  have sf0 : SpAt (w.alloc (.cells #[.slice A0 d.ints.length c0, .slice B0 d.fracs.length e0] 24)) (.slice B0 d.fracs.length e0) d.fracs := ⟨B0, e0, rfl, y0.ext hEW⟩
  have SI0 := Lib.hid si0
  have SF0 := Lib.hid sf0
  clear si0 sf0
  have HE := Lib.hid hEW
  clear hEW b0 h0 k0 x0 y0
  go_enter Try.func23, Try.ntmps23
  have hdef : Hid (singleR d = if countR d ≠ 1 then (0, false) else leastR d) := Lib.hid rfl
  have H0 := Lib.hid hs
  clear hs
  go_wp2_with fail
  refine (countR_any _ _ d K0.out H0.out).mono ?_
  rintro e w1 ⟨rfl, hE1⟩
  generalize hc : countR d = c at *
  have HC := Lib.hid hc
  clear hc
  have hf := f0a _ hE1
  have hg := f0b _ hE1
  have k1 := K0.out.ext hE1
  have K1 := Lib.hid k1
  have HE1 := Lib.hid (HE.out.trans hE1)
  clear k1 hE1 f0a f0b
  by_cases h1 : c = 1
  · subst h1
    have hdef2 : singleR d = leastR d := by rw [hdef.out]; simp
    have HD := Lib.hid hdef2
    clear hdef2
    go_wp2_with fail
    refine (leastR_any _ _ d K1.out (H0.out.mono (by omega))).mono ?_
    rintro e w2 ⟨rfl, hE2⟩
    rw [← HD.out]
    clear hdef HD
    obtain ⟨u, b⟩ : ∃ r, singleR d = r := ⟨_, rfl⟩
    have HQ := Lib.hid b
    clear b
    rw [HQ.out]
    obtain ⟨u1, u2⟩ := u
    have HE2 := Lib.hid (HE1.out.trans hE2)
    clear hE2
    go_wp2
    exact bodyPost_ret (results_tmp2 rfl _ _ _) rfl ⟨by rw [HQ.out]; simp, HE2.out⟩
  · have hdef2 : singleR d = (0, false) := by rw [hdef.out]; simp [h1]
    have HD := Lib.hid hdef2
    clear hdef2
    have h2 : (c == 1) = false := by simpa using h1
    go_wp2_with fail
    refine bodyPost_ret (results_tmp2 rfl _ _ _) rfl ⟨by rw [HD.out]; simp, HE1.out⟩

set_option maxRecDepth 100000 in
set_option maxHeartbeats 2000000 in
theorem cmpR_any (w : World) (v0 : Value) (a : Nm) (h0 : NmAt w v0 a) (v1 : Value) (b : Nm) (h1 : NmAt w v1 b) (hs : Sz 400 a) (hs' : Sz 400 b) :
    Calls Try.prog 27 #[v0, v1] w fun e w' => e = .returned (.int .i64 (cmpR a b)) ∧ Ext w w' := by
  have g0 := h0
  obtain ⟨A0, c0, B0, e0, rfl, x0, y0⟩ := g0
  have g1 := h1
  obtain ⟨A1, c1, B1, e1, rfl, x1, y1⟩ := g1
  have b0 : BlkN ((w.alloc (.cells #[.slice A0 a.ints.length c0, .slice B0 a.fracs.length e0] 24)).alloc (.cells #[.slice A1 b.ints.length c1, .slice B1 b.fracs.length e1] 24)) w.heap.size (.slice A0 a.ints.length c0) (.slice B0 a.fracs.length e0) := by simpa using (BlkN.new w (.slice A0 a.ints.length c0) (.slice B0 a.fracs.length e0)).alloc _
  have b1 : BlkN ((w.alloc (.cells #[.slice A0 a.ints.length c0, .slice B0 a.fracs.length e0] 24)).alloc (.cells #[.slice A1 b.ints.length c1, .slice B1 b.fracs.length e1] 24)) (w.heap.size + 1) (.slice A1 b.ints.length c1) (.slice B1 b.fracs.length e1) := by simpa using BlkN.new (w.alloc (.cells #[.slice A0 a.ints.length c0, .slice B0 a.fracs.length e0] 24)) (.slice A1 b.ints.length c1) (.slice B1 b.fracs.length e1)
  have hEW : Ext w ((w.alloc (.cells #[.slice A0 a.ints.length c0, .slice B0 a.fracs.length e0] 24)).alloc (.cells #[.slice A1 b.ints.length c1, .slice B1 b.fracs.length e1] 24)) := ((Ext.refl w).alloc _).alloc _
  have k0 := h0.ext hEW
  have k1 := h1.ext hEW
  have f0a := fun w' (h : Ext ((w.alloc (.cells #[.slice A0 a.ints.length c0, .slice B0 a.fracs.length e0] 24)).alloc (.cells #[.slice A1 b.ints.length c1, .slice B1 b.fracs.length e1] 24)) w') => (b0.ext h).cell0
  have f0b := fun w' (h : Ext ((w.alloc (.cells #[.slice A0 a.ints.length c0, .slice B0 a.fracs.length e0] 24)).alloc (.cells #[.slice A1 b.ints.length c1, .slice B1 b.fracs.length e1] 24)) w') => (b0.ext h).cell1
  have f1a := fun w' (h : Ext ((w.alloc (.cells #[.slice A0 a.ints.length c0, .slice B0 a.fracs.length e0] 24)).alloc (.cells #[.slice A1 b.ints.length c1, .slice B1 b.fracs.length e1] 24)) w') => (b1.ext h).cell0
  have f1b := fun w' (h : Ext ((w.alloc (.cells #[.slice A0 a.ints.length c0, .slice B0 a.fracs.length e0] 24)).alloc (.cells #[.slice A1 b.ints.length c1, .slice B1 b.fracs.length e1] 24)) w') => (b1.ext h).cell1
  have K0 := Lib.hid k0
  have K1 := Lib.hid k1
  have si0 : SpAt ((w.alloc (.cells #[.slice A0 a.ints.length c0, .slice B0 a.fracs.length e0] 24)).alloc (.cells #[.slice A1 b.ints.length c1, .slice B1 b.fracs.length e1] 24)) (.slice A0 a.ints.length c0) a.ints := ⟨A0, c0, rfl, x0.ext hEW⟩
  have sf0 : SpAt ((w.alloc (.cells #[.slice A0 a.ints.length c0, .slice B0 a.fracs.length e0] 24)).alloc (.cells #[.slice A1 b.ints.length c1, .slice B1 b.fracs.length e1] 24)) (.slice B0 a.fracs.length e0) a.fracs := ⟨B0, e0, rfl, y0.ext hEW⟩
  have SI0 := Lib.hid si0
  have SF0 := Lib.hid sf0
  clear si0 sf0
  have si1 : SpAt ((w.alloc (.cells #[.slice A0 a.ints.length c0, .slice B0 a.fracs.length e0] 24)).alloc (.cells #[.slice A1 b.ints.length c1, .slice B1 b.fracs.length e1] 24)) (.slice A1 b.ints.length c1) b.ints := ⟨A1, c1, rfl, x1.ext hEW⟩
  have sf1 : SpAt ((w.alloc (.cells #[.slice A0 a.ints.length c0, .slice B0 a.fracs.length e0] 24)).alloc (.cells #[.slice A1 b.ints.length c1, .slice B1 b.fracs.length e1] 24)) (.slice B1 b.fracs.length e1) b.fracs := ⟨B1, e1, rfl, y1.ext hEW⟩
  have SI1 := Lib.hid si1
  have SF1 := Lib.hid sf1
  clear si1 sf1
  have HE := Lib.hid hEW
  clear hEW b0 h0 k0 x0 y0 b1 h1 k1 x1 y1
  go_enter Try.func27, Try.ntmps27
  have hdef : Hid (cmpR a b = if !(leastR (orR (minusR a b) (minusR b a))).2 then 0 else if hasL a (leastR (orR (minusR a b) (minusR b a))).1 then -1 else 1) := Lib.hid rfl
  have hbd := leastP_bd (orR (minusR a b) (minusR b a))
  rw [least_eq] at hbd
  have hpl : ∀ (v0 v1 : Value) (w : World), NmAt w v0 a → NmAt w v1 b → Calls Try.prog 45 #[v0, v1] w fun e w' => ∃ r, e = .returned r ∧ NmAt w' r (minusR a b) ∧ Ext w w' := fun v0 v1 w k0 k1 => minusR_any w v0 a k0 v1 b k1 (hs.mono (by omega)) (hs'.mono (by omega))
  have hpl' : ∀ (v0 v1 : Value) (w : World), NmAt w v0 b → NmAt w v1 a → Calls Try.prog 45 #[v0, v1] w fun e w' => ∃ r, e = .returned r ∧ NmAt w' r (minusR b a) ∧ Ext w w' := fun v0 v1 w k0 k1 => minusR_any w v0 b k0 v1 a k1 (hs'.mono (by omega)) (hs.mono (by omega))
  have hpo : ∀ (v0 v1 : Value) (w : World), NmAt w v0 (minusR a b) → NmAt w v1 (minusR b a) → Calls Try.prog 42 #[v0, v1] w fun e w' => ∃ r, e = .returned r ∧ NmAt w' r (orR (minusR a b) (minusR b a)) ∧ Ext w w' := fun v0 v1 w k0 k1 => orR_any w v0 _ k0 v1 _ k1 ((minusR_sz hs hs').mono (by omega)) ((minusR_sz hs' hs).mono (by omega))
  have hpL : ∀ (v0 : Value) (w : World), NmAt w v0 (orR (minusR a b) (minusR b a)) → Calls Try.prog 21 #[v0] w fun e w' => e = .returned (.tuple #[.int .i64 (leastR (orR (minusR a b) (minusR b a))).1, .bool (leastR (orR (minusR a b) (minusR b a))).2]) ∧ Ext w w' := fun v0 w k0 => leastR_any w v0 _ k0 ((orR_sz (minusR_sz hs hs') (minusR_sz hs' hs)).mono (by omega))
  have hph : ∀ (v0 : Value) (w : World), NmAt w v0 a → Calls Try.prog 37 #[v0, .int .i64 (leastR (orR (minusR a b) (minusR b a))).1] w fun e w' => e = .returned (.bool (hasL a (leastR (orR (minusR a b) (minusR b a))).1)) ∧ Ext w w' := fun v0 w k0 => hasR_any w v0 a k0 _ (hs.mono (by omega)) ⟨by omega, by omega⟩
  clear hs hs' hbd
  generalize minusR a b = m1 at *
  generalize minusR b a = m2 at *
  generalize orR m1 m2 = m3 at *
  generalize leastR m3 = q at *
  obtain ⟨pu, pb⟩ := q
  simp only at hpL hph
  go_wp2_with fail
  refine wp_region_rel (E := Ext) (m := 13) (by kernel_rfl) rfl (by decide) rfl (by kernel_rfl) (by kernel_rfl) ((Ext.refl _).drawn _) Ext.refl (fun _ _ _ => Ext.trans) ?_
  simp only [List.take_succ_cons, List.take_zero]
  apply rel_pure
  · intro act w' K' hE he hK
    simp [Oper.looksAt, Op.operands] at he
    go_simp
    exact hK _ rfl
  apply rel_pure
  · intro act w' K' hE he hK
    simp [Oper.looksAt, Op.operands, upd] at he
    go_simp
    exact hK _ rfl
  refine rel_any (fun v w => NmAt w v (m1)) (fun _ _ _ h hE => NmAt.ext h hE) ?_ ?_
  · intro act w' K' hE he hK
    simp [Oper.looksAt, Op.operands, Call.operands, upd] at he
    go_simp
    refine (hpl _ _ _ (K0.out.ext hE) (K1.out.ext hE)).mono ?_
    rintro e w'' ⟨r, rfl, hr, hE'⟩
    exact hK _ _ hE' hr
  apply rel_pure
  · intro act w' K' hE he hK
    simp [Oper.looksAt, Op.operands, upd] at he
    go_simp
    exact hK _ rfl
  apply rel_pure
  · intro act w' K' hE he hK
    simp [Oper.looksAt, Op.operands, upd] at he
    go_simp
    exact hK _ rfl
  refine rel_any (fun v w => NmAt w v (m2)) (fun _ _ _ h hE => NmAt.ext h hE) ?_ ?_
  · intro act w' K' hE he hK
    simp [Oper.looksAt, Op.operands, Call.operands, upd] at he
    go_simp
    refine (hpl' _ _ _ (K1.out.ext hE) (K0.out.ext hE)).mono ?_
    rintro e w'' ⟨r, rfl, hr, hE'⟩
    exact hK _ _ hE' hr
  refine rel_any (fun v w => NmAt w v (m3)) (fun _ _ _ h hE => NmAt.ext h hE) ?_ ?_
  · intro act w' K' hE he hK
    simp [Oper.looksAt, Op.operands, Call.operands, upd] at he
    go_simp
    refine (hpo _ _ _ he.1 he.2).mono ?_
    rintro e w'' ⟨r, rfl, hr, hE'⟩
    exact hK _ _ hE' hr
  refine rel_any (fun v _ => v = .tuple #[.int .i64 pu, .bool pb]) (fun _ _ _ h _ => h) ?_ ?_
  · intro act w' K' hE he hK
    simp [Oper.looksAt, Op.operands, Call.operands, upd] at he
    go_simp
    refine (hpL _ _ he).mono ?_
    rintro e w'' ⟨rfl, hE'⟩
    exact hK _ _ hE' rfl
  apply rel_pure
  · intro act w' K' hE he hK
    simp [Oper.looksAt, Op.operands, upd] at he
    go_simp
    exact hK _ rfl
  apply rel_pure
  · intro act w' K' hE he hK
    simp [Oper.looksAt, Op.operands, upd] at he
    go_simp
    exact hK _ rfl
  apply rel_pure
  · intro act w' K' hE he hK
    simp [Oper.looksAt, Op.operands, upd] at he
    go_simp
    exact hK _ rfl
  apply rel_pure
  · intro act w' K' hE he hK
    simp [Oper.looksAt, Op.operands, upd] at he
    go_simp
    exact hK _ rfl
  apply rel_pure
  · intro act w' K' hE he hK
    simp [Oper.looksAt, Op.operands, upd] at he
    go_simp
    exact hK _ rfl
  refine relSeq_nil fun w3 hE3 => ?_
  simp only [fin, List.nil_append, List.cons_append]
  rintro _ rfl _ rfl q2 _ _ rfl _ rfl q5 _ q6 _ _ rfl _ rfl _ rfl _ rfl _ rfl _ rfl
  simp only [Act.put]
  simp
  have HF := Lib.hid (HE.out.trans hE3)
  have h0a := f0a _ hE3
  have h0b := f0b _ hE3
  have HX3 := Lib.hid hE3
  clear hE3 f0a f0b f1a f1b hpl hpl' hpo hpL
  cases pb
  · go_wp2_with fail
    (try apply_assumption)
    go_wp2_with fail
    refine bodyPost_ret (results_tmp (t := 4) rfl _ _ _) rfl ⟨by rw [hdef.out] <;> rfl, HF.out⟩
  · have hp2 := fun v0 W' k => hph v0 W' k
    have hex : ∃ b, hasL a pu = b := ⟨_, rfl⟩
    obtain ⟨hb, hbe⟩ := hex
    rw [hbe] at hp2
    have HBE := Lib.hid hbe
    clear hbe hph
    go_wp2_with fail
    (try apply_assumption)
    go_wp2_with fail
    refine (hp2 _ _ (K0.out.ext HX3.out)).mono ?_
    rintro e w4 ⟨rfl, hE4⟩
    have HF4 := Lib.hid (HF.out.trans hE4)
    clear hE4
    cases hb
    · go_wp2_with fail
      refine bodyPost_ret (results_tmp (t := 4) rfl _ _ _) rfl ⟨by rw [hdef.out, HBE.out] <;> rfl, HF4.out⟩
    · go_wp2_with fail
      refine bodyPost_ret (results_tmp (t := 4) rfl _ _ _) rfl ⟨by rw [hdef.out, HBE.out] <;> rfl, HF4.out⟩

end Go.Proofs.Ytaianhhmmacblaa
