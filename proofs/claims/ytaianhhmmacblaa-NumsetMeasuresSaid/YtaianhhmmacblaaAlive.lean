import Derived.Test.YtaianhhmmacblaaAlive0
import Derived.Test.YtaianhhmmacblaaRelK
import Derived.Test.YtaianhhmmacblaaHasP
/-
  The laws' examples: alive returns true.
-/
namespace Go.Proofs.Ytaianhhmmacblaa
open Go.RowKit

set_option maxRecDepth 100000 in
set_option maxHeartbeats 4000000 in
theorem alive_any (w : World) : Calls Try.prog 15 #[] w fun e w' => e = .returned (.bool true) ∧ Ext w w' := by
  go_enter Try.func15, Try.ntmps15
  go_wp2_with fail
  refine (boundP_any _ opLt 15000 (by omega)).mono ?_
  rintro e w1 ⟨r1, rfl, hm1, hE1⟩
  rw [boundP_lt] at hm1 ⊢
  obtain ⟨A1, c1, B1, e1, rfl, i1, f1⟩ := hm1
  have hsz := Lib.hid (makeR_sz (n := 1) (d := lessN 15000) ⟨Nat.le_refl 1, Nat.le_refl 1⟩)
  have hir := Lib.hid (InR.of_bdd (makeR_bddF (lessN 15000)))
  have HL : Hid (andP (makeR (lessN 15000)) intsN = lN) := Lib.hid rfl
  generalize makeR (lessN 15000) = dl at *
  go_wp2_with fail
  have b1 := BlkN.new w1 (.slice A1 dl.ints.length c1) (.slice B1 dl.fracs.length e1)
  have n1 : NmAt (w1.alloc (.cells #[.slice A1 dl.ints.length c1, .slice B1 dl.fracs.length e1] 24)) (.agg #[.slice A1 dl.ints.length c1, .slice B1 dl.fracs.length e1]) dl := NmAt.ext ⟨A1, c1, B1, e1, rfl, i1, f1⟩ ((Ext.refl w1).alloc _)
  have hE1 := hE1.alloc (.cells #[.slice A1 dl.ints.length c1, .slice B1 dl.fracs.length e1] 24)
  clear i1 f1
  generalize w1.alloc (.cells #[.slice A1 dl.ints.length c1, .slice B1 dl.fracs.length e1] 24) = W1 at *
  refine (boundP_any _ opBad 1 (by omega)).mono ?_
  rintro e w2 ⟨r2, rfl, hm2, hE2⟩
  rw [boundP_bad] at hm2 ⊢
  obtain ⟨A2, c2, B2, e2, rfl, _, _⟩ := hm2
  have B1' := Lib.hid (b1.ext hE2)
  have N1' := Lib.hid (n1.ext hE2)
  have HE2 := Lib.hid (hE1.trans hE2)
  clear b1 n1 hE1 hE2
  go_wp2_with fail
  refine (boundP_any _ opNe 1000000000000001 (by omega)).mono ?_
  rintro e w3 ⟨r3, rfl, hm3, hE3⟩
  rw [boundP_far] at hm3 ⊢
  obtain ⟨A3, c3, B3, e3, rfl, _, _⟩ := hm3
  have hE3 := ((Ext.refl w2).alloc _).trans hE3
  have B1' := Lib.hid (B1'.out.ext hE3)
  have N1' := Lib.hid (N1'.out.ext hE3)
  have HE3 := Lib.hid (HE2.out.trans hE3)
  clear hE3
  go_wp2_with fail
  have hE4 := (Ext.refl w3).alloc (.cells #[.slice A3 0 c3, .slice B3 0 e3] 24)
  generalize w3.alloc (.cells #[.slice A3 0 c3, .slice B3 0 e3] 24) = W4 at *
  have B1' := Lib.hid (B1'.out.ext hE4)
  have N1' := Lib.hid (N1'.out.ext hE4)
  have HE4 := Lib.hid (HE3.out.trans hE4)
  have f0a := fun w' (h : Ext W4 w') => (B1'.out.ext h).cell0
  have f0b := fun w' (h : Ext W4 w') => (B1'.out.ext h).cell1
  clear hE4
  refine wp_region_rel (E := Ext) (m := 4) (by kernel_rfl) rfl (by decide) rfl (by kernel_rfl) (by kernel_rfl) ((Ext.refl _).drawn _) Ext.refl (fun _ _ _ => Ext.trans) ?_
  simp only [List.take_succ_cons, List.take_zero]
  apply rel_pure
  · intro act w' K' hE he hK
    simp [Oper.looksAt, Op.operands] at he
    go_simp
    exact hK _ rfl
  refine rel_any (fun v w => NmAt w v (intsN)) (fun _ _ _ h hE => NmAt.ext h hE) ?_ ?_
  · intro act w' K' hE he hK
    go_simp
    refine (intsP_any _).mono ?_
    rintro e w'' ⟨r, rfl, hr, hE'⟩
    exact hK _ _ hE' hr
  refine rel_any (fun v w => NmAt w v (lN)) (fun _ _ _ h hE => NmAt.ext h hE) ?_ ?_
  · intro act w' K' hE he hK
    simp [Oper.looksAt, Op.operands, Call.operands, upd] at he
    go_simp
    refine (HL.out ▸ andP_any _ _ dl (N1'.out.ext hE) _ intsN he.2 (hsz.out.mono (by omega)) ⟨by decide, by decide⟩ hir.out (fun s hs => (by cases hs))).mono ?_
    rintro e w'' ⟨r, rfl, hr, hE'⟩
    exact hK _ _ hE' hr
  refine rel_any (fun v w => ∃ g, v = .pointer (some ⟨g, 0, none⟩) ∧ BlkN w g (.slice none 0 0) (.slice none 0 0) ∧ W4.heap.size ≤ g) (fun _ _ _ ⟨g, h1, h2, h3⟩ hE => ⟨g, h1, h2.ext hE, h3⟩) ?_ ?_
  · intro act w' K' hE he hK
    go_simp
    exact hK _ _ ((Ext.refl _).alloc _) ⟨_, rfl, BlkN.new _ _ _, hE.size⟩
  refine relSeq_nil fun w5 hE5 => ?_
  simp only [fin, List.nil_append, List.cons_append]
  rintro _ rfl q1 u1 q2 u2 q3 ⟨g7, rfl, b7, hg7⟩
  obtain ⟨Ar, cr, Ar', cr', rfl, hr1, hr2⟩ := u2
  have hfin := nm_store (c := cr) (c' := cr') b7 hr1 hr2 hE5 hg7
  have z0 := b7.cell0
  have z1 := b7.cell1
  have z2 := b7.frozen0
  have z3 := fun u => (b7.set0 u).frozen0 1
  have z4 := fun u => (b7.set0 u).cell1
  obtain ⟨n1, n2, n3, n4⟩ := hfin
  have b8 := (b7.set0 (.slice Ar lN.ints.length cr)).set1 (.slice Ar' lN.fracs.length cr')
  clear hr1 hr2 hE5 b7 n3 n4
  simp only [Act.put]
  simp
  simp only [tailFrom]
  have HB8 := Lib.hid b8
  have HN1 := Lib.hid n1
  have HE5 := Lib.hid (HE4.out.trans n2)
  clear b8 n1 n2
  go_wp2_with fail
  have hz5 : ((w5.setCell ⟨g7, 0, none⟩ (.slice Ar lN.ints.length cr)).setCell ⟨g7, 1, none⟩ (.slice Ar' lN.fracs.length cr')).heap.size = w5.heap.size := by simp [World.setCell]
  generalize ((w5.setCell ⟨g7, 0, none⟩ (.slice Ar lN.ints.length cr)).setCell ⟨g7, 1, none⟩ (.slice Ar' lN.fracs.length cr')) = W5 at *
  have hh := heap_alloc_new W5 (.cells #[.int .i64 2, .int .i64 2, .int .i64 1, .int .i64 1] 45)
  rw [hz5] at hh
  have hnm : NmAt (W5.alloc (.cells #[.int .i64 2, .int .i64 2, .int .i64 1, .int .i64 1] 45)) (.agg #[.slice (some ⟨w5.heap.size, 0, none⟩) 2 2, .slice none 0 0]) ⟨[(2, 2), (1, 1)], []⟩ :=
    ⟨_, _, _, _, rfl, sl_two hh (by simp [hz5]), SlAt.nil _ _ _⟩
  have hE6 := (Ext.refl W5).alloc (.cells #[.int .i64 2, .int .i64 2, .int .i64 1, .int .i64 1] 45)
  clear hh hz5 z0 z1 z2 z3 z4 f0a f0b
  refine (makeP_any _ _ ⟨[(2, 2), (1, 1)], []⟩ hnm ⟨by decide, by decide⟩ (fun s hs => (by cases hs))).mono ?_
  rintro e w6 ⟨r6, rfl, hm6, hE6'⟩
  have hE6 := hE6.trans hE6'
  have HT := Lib.hid two_same
  have s2 := Lib.hid ((makeR_sz (n := 2) (d := ⟨[(2, 2), (1, 1)], []⟩) ⟨by decide, by decide⟩).mono (by decide : 2 ≤ 100000000))
  generalize makeR ⟨[(2, 2), (1, 1)], []⟩ = d2 at *
  obtain ⟨A6, c6, B6, e6, rfl, i6, f6⟩ := hm6
  have b6 := Lib.hid (BlkN.new w6 (.slice A6 d2.ints.length c6) (.slice B6 d2.fracs.length e6))
  have n6 : NmAt (w6.alloc (.cells #[.slice A6 d2.ints.length c6, .slice B6 d2.fracs.length e6] 24)) (.agg #[.slice A6 d2.ints.length c6, .slice B6 d2.fracs.length e6]) d2 := NmAt.ext ⟨A6, c6, B6, e6, rfl, i6, f6⟩ ((Ext.refl w6).alloc _)
  have n6 := Lib.hid n6
  have hE6 := hE6.alloc (.cells #[.slice A6 d2.ints.length c6, .slice B6 d2.fracs.length e6] 24)
  have HB8 := Lib.hid (HB8.out.ext hE6)
  have HN1 := Lib.hid (HN1.out.ext hE6)
  have HE6 := Lib.hid (HE5.out.trans hE6)
  clear i6 f6 hE6 hE6' hnm
  generalize hW6 : w6.alloc (.cells #[.slice A6 d2.ints.length c6, .slice B6 d2.fracs.length e6] 24) = W6 at *
  go_wp2_with fail
  refine (intsL_any _ (-3) (-1)).mono ?_
  rintro e w7 ⟨r7, rfl, hm7, hE7⟩
  have HB8 := Lib.hid (HB8.out.ext hE7)
  have HN1 := Lib.hid (HN1.out.ext hE7)
  have b6 := Lib.hid (b6.out.ext hE7)
  have n6 := Lib.hid (n6.out.ext hE7)
  have HE7 := Lib.hid (HE6.out.trans hE7)
  have M7 := Lib.hid hm7
  clear hm7 hE7 hW6
  go_wp2_with fail
  refine (leastP_any _ _ ⟨[(-3, -1)], []⟩ M7.out ⟨by decide, by decide⟩ (fun s hs => (by cases hs))).mono ?_
  rintro e w8 ⟨rfl, hE8⟩
  rw [least_ex]
  have HB8 := Lib.hid (HB8.out.ext hE8)
  have HN1 := Lib.hid (HN1.out.ext hE8)
  have b6 := Lib.hid (b6.out.ext hE8)
  have n6 := Lib.hid (n6.out.ext hE8)
  have HE8 := Lib.hid (HE7.out.trans hE8)
  clear hE8 M7
  have hh := heap_alloc_new w8 (.cells #[.int .i64 0, .int .i64 10000, .int .i64 10000, .int .i64 20000] 45)
  have hnm : NmAt (w8.alloc (.cells #[.int .i64 0, .int .i64 10000, .int .i64 10000, .int .i64 20000] 45)) (.agg #[.slice none 0 0, .slice (some ⟨w8.heap.size, 0, none⟩) 2 2]) ⟨[], [(0, 10000), (10000, 20000)]⟩ :=
    ⟨_, _, _, _, rfl, SlAt.nil _ _ _, sl_two hh (by simp)⟩
  have hE9 := (Ext.refl w8).alloc (.cells #[.int .i64 0, .int .i64 10000, .int .i64 10000, .int .i64 20000] 45)
  have HM := Lib.hid hnm
  have HE9 := Lib.hid hE9
  clear hh hnm hE9
  go_wp2_with fail
  refine (makeP_any _ _ ⟨[], [(0, 10000), (10000, 20000)]⟩ HM.out ⟨by decide, by decide⟩ (fun s hs => by simp at hs; rcases hs with rfl | rfl <;> simp only <;> omega)).mono ?_
  rintro e w9 ⟨r9, rfl, hm9, hE9⟩
  have hE9 := HE9.out.trans hE9
  have HJ := Lib.hid joined_same
  have s9 := Lib.hid ((makeR_sz (n := 2) (d := ⟨[], [(0, 10000), (10000, 20000)]⟩) ⟨by decide, by decide⟩).mono (by decide : 2 ≤ 100000000))
  generalize makeR ⟨[], [(0, 10000), (10000, 20000)]⟩ = d9 at *
  obtain ⟨A9, c9, B9, e9, rfl, i9, f9⟩ := hm9
  have b9 := Lib.hid (BlkN.new w9 (.slice A9 d9.ints.length c9) (.slice B9 d9.fracs.length e9))
  have n9 : NmAt (w9.alloc (.cells #[.slice A9 d9.ints.length c9, .slice B9 d9.fracs.length e9] 24)) (.agg #[.slice A9 d9.ints.length c9, .slice B9 d9.fracs.length e9]) d9 := NmAt.ext ⟨A9, c9, B9, e9, rfl, i9, f9⟩ ((Ext.refl w9).alloc _)
  have n9 := Lib.hid n9
  have hE9 := hE9.alloc (.cells #[.slice A9 d9.ints.length c9, .slice B9 d9.fracs.length e9] 24)
  have HB8 := Lib.hid (HB8.out.ext hE9)
  have HN1 := Lib.hid (HN1.out.ext hE9)
  have b6 := Lib.hid (b6.out.ext hE9)
  have n6 := Lib.hid (n6.out.ext hE9)
  have HEW := Lib.hid (HE8.out.trans hE9)
  clear i9 f9 hE9 HE9 HM
  go_wp2_with fail
  generalize w9.alloc (.cells #[.slice A9 d9.ints.length c9, .slice B9 d9.fracs.length e9] 24) = W at *
  clear HE2 HE3 HE4 HE5 HE6 HE7 HE8 B1' N1'
  refine wp_region_all (m := 57) (by kernel_rfl) rfl rfl rfl (by kernel_rfl) (by kernel_rfl) ?_
  refine rel_move (t := 2) (v := .int .i64 0) rfl trivial (by kernel_rfl) (by kernel_rfl) ?_
  refine rel_val1 (t := 42) (v1 := .int .i64 0) (v := .bool true) trivial (by kernel_rfl) (by kernel_rfl) (by intro ρ w hc h1; go_simp) ?_
  refine rel_move (t := 43) (v := .bool true) rfl trivial (by kernel_rfl) (by kernel_rfl) ?_
  refine rel_move (t := 4) (v := .int .i64 8) rfl ⟨44, by kernel_rfl, by kernel_rfl⟩ (by kernel_rfl) (by kernel_rfl) ?_
  refine rel_val1 (t := 45) (v1 := .int .i64 8) (v := .bool true) ⟨44, by kernel_rfl, by kernel_rfl⟩ (by kernel_rfl) (by kernel_rfl) (by intro ρ w hc h1; go_simp) ?_
  refine rel_val2 (t := 44) (t' := 46) (v1 := .bool true) (v2 := .bool true) (v := .bool true) trivial (by kernel_rfl) (by kernel_rfl) (by kernel_rfl) (by kernel_rfl) (by intro ρ w hc h1 h2; go_simp) ?_
  refine rel_move (t := 47) (v := .bool true) rfl trivial (by kernel_rfl) (by kernel_rfl) ?_
  refine rel_move (t := 6) (v := .int .i64 1) rfl ⟨48, by kernel_rfl, by kernel_rfl⟩ (by kernel_rfl) (by kernel_rfl) ?_
  refine rel_val1 (t := 49) (v1 := .int .i64 1) (v := .bool true) ⟨48, by kernel_rfl, by kernel_rfl⟩ (by kernel_rfl) (by kernel_rfl) (by intro ρ w hc h1; go_simp) ?_
  refine rel_val2 (t := 48) (t' := 50) (v1 := .bool true) (v2 := .bool true) (v := .bool true) trivial (by kernel_rfl) (by kernel_rfl) (by kernel_rfl) (by kernel_rfl) (by intro ρ w hc h1 h2; go_simp) ?_
  refine rel_move (t := 51) (v := .bool true) rfl trivial (by kernel_rfl) (by kernel_rfl) ?_
  refine rel_load (t := 7) (g := g7) (D := lN) ⟨52, by kernel_rfl, by kernel_rfl⟩ (by kernel_rfl) (by kernel_rfl) (fun w h => ⟨_, _, (HB8.out.ext h).cell0, (HB8.out.ext h).cell1, HN1.out.ext h⟩) (by intro ρ w x y h1 h2 h3; go_simp) ?_
  refine rel_call1 (Is (.bool true)) (Is.stable _) ⟨52, by kernel_rfl, by kernel_rfl⟩ (f := 16) (fun u => #[u, .int .i64 10000]) (t := 53) (S := (Nms (lN))) (by kernel_rfl) (by kernel_rfl) (by intro ρ w hc hf; go_simp) (fun w u hE hu => conB (hasP_any w u lN 10000 hu ⟨by decide, by decide⟩ lN_inr (by omega) (by omega)) (by rw [l_has1])) ?_
  refine rel_val2 (t := 52) (t' := 54) (v1 := .bool true) (v2 := .bool true) (v := .bool true) trivial (by kernel_rfl) (by kernel_rfl) (by kernel_rfl) (by kernel_rfl) (by intro ρ w hc h1 h2; go_simp) ?_
  refine rel_move (t := 55) (v := .bool true) rfl trivial (by kernel_rfl) (by kernel_rfl) ?_
  refine rel_load (t := 7) (g := g7) (D := lN) ⟨56, by kernel_rfl, by kernel_rfl⟩ (by kernel_rfl) (by kernel_rfl) (fun w h => ⟨_, _, (HB8.out.ext h).cell0, (HB8.out.ext h).cell1, HN1.out.ext h⟩) (by intro ρ w x y h1 h2 h3; go_simp) ?_
  refine rel_call1 (Is (.bool true)) (Is.stable _) ⟨56, by kernel_rfl, by kernel_rfl⟩ (f := 16) (fun u => #[u, .int .i64 0]) (t := 57) (S := (Nms (lN))) (by kernel_rfl) (by kernel_rfl) (by intro ρ w hc hf; go_simp) (fun w u hE hu => conB (hasP_any w u lN 0 hu ⟨by decide, by decide⟩ lN_inr (by omega) (by omega)) (by rw [l_has2])) ?_
  refine rel_val2 (t := 56) (t' := 58) (v1 := .bool true) (v2 := .bool true) (v := .bool true) trivial (by kernel_rfl) (by kernel_rfl) (by kernel_rfl) (by kernel_rfl) (by intro ρ w hc h1 h2; go_simp) ?_
  refine rel_move (t := 59) (v := .bool true) rfl trivial (by kernel_rfl) (by kernel_rfl) ?_
  refine rel_load (t := 7) (g := g7) (D := lN) ⟨60, by kernel_rfl, by kernel_rfl⟩ (by kernel_rfl) (by kernel_rfl) (fun w h => ⟨_, _, (HB8.out.ext h).cell0, (HB8.out.ext h).cell1, HN1.out.ext h⟩) (by intro ρ w x y h1 h2 h3; go_simp) ?_
  refine rel_call1 (Is (.bool false)) (Is.stable _) ⟨60, by kernel_rfl, by kernel_rfl⟩ (f := 16) (fun u => #[u, .int .i64 20000]) (t := 61) (S := (Nms (lN))) (by kernel_rfl) (by kernel_rfl) (by intro ρ w hc hf; go_simp) (fun w u hE hu => conB (hasP_any w u lN 20000 hu ⟨by decide, by decide⟩ lN_inr (by omega) (by omega)) (by rw [l_has3])) ?_
  refine rel_val1 (t := 62) (v1 := .bool false) (v := .bool true) ⟨60, by kernel_rfl, by kernel_rfl⟩ (by kernel_rfl) (by kernel_rfl) (by intro ρ w hc h1; go_simp) ?_
  refine rel_val2 (t := 60) (t' := 63) (v1 := .bool true) (v2 := .bool true) (v := .bool true) trivial (by kernel_rfl) (by kernel_rfl) (by kernel_rfl) (by kernel_rfl) (by intro ρ w hc h1 h2; go_simp) ?_
  refine rel_move (t := 64) (v := .bool true) rfl trivial (by kernel_rfl) (by kernel_rfl) ?_
  refine rel_load (t := 7) (g := g7) (D := lN) ⟨65, by kernel_rfl, by kernel_rfl⟩ (by kernel_rfl) (by kernel_rfl) (fun w h => ⟨_, _, (HB8.out.ext h).cell0, (HB8.out.ext h).cell1, HN1.out.ext h⟩) (by intro ρ w x y h1 h2 h3; go_simp) ?_
  refine rel_call1 (Is (.bool false)) (Is.stable _) ⟨65, by kernel_rfl, by kernel_rfl⟩ (f := 16) (fun u => #[u, .int .i64 5000]) (t := 66) (S := (Nms (lN))) (by kernel_rfl) (by kernel_rfl) (by intro ρ w hc hf; go_simp) (fun w u hE hu => conB (hasP_any w u lN 5000 hu ⟨by decide, by decide⟩ lN_inr (by omega) (by omega)) (by rw [l_has4])) ?_
  refine rel_val1 (t := 67) (v1 := .bool false) (v := .bool true) ⟨65, by kernel_rfl, by kernel_rfl⟩ (by kernel_rfl) (by kernel_rfl) (by intro ρ w hc h1; go_simp) ?_
  refine rel_val2 (t := 65) (t' := 68) (v1 := .bool true) (v2 := .bool true) (v := .bool true) trivial (by kernel_rfl) (by kernel_rfl) (by kernel_rfl) (by kernel_rfl) (by intro ρ w hc h1 h2; go_simp) ?_
  refine rel_move (t := 69) (v := .bool true) rfl trivial (by kernel_rfl) (by kernel_rfl) ?_
  refine rel_load (t := 8) (g := w6.heap.size) (D := d2) ⟨70, by kernel_rfl, by kernel_rfl⟩ (by kernel_rfl) (by kernel_rfl) (fun w h => ⟨_, _, (b6.out.ext h).cell0, (b6.out.ext h).cell1, n6.out.ext h⟩) (by intro ρ w x y h1 h2 h3; go_simp) ?_
  refine rel_call0 (Nms (⟨[(1, 2)], []⟩)) (Nms.stable _) ⟨70, by kernel_rfl, by kernel_rfl⟩ (f := 53) #[.int .i64 1, .int .i64 2] (by intro ρ w hc hf; go_simp) (fun w hE => intsL_any w 1 2) ?_
  refine rel_call2 (Is (.bool true)) (Is.stable _) ⟨70, by kernel_rfl, by kernel_rfl⟩ (f := 14) (fun u u' => #[u, u']) (t := 71) (t' := 72) (S := (Nms (d2))) (S' := (Nms (⟨[(1, 2)], []⟩))) (by kernel_rfl) (by kernel_rfl) (by kernel_rfl) (by kernel_rfl) (by intro ρ w hc hf; go_simp) (fun w u u' hE hu hu' => conB (sameR_any w u d2 hu u' ⟨[(1, 2)], []⟩ hu' s2.out ⟨by decide, by decide⟩) (by rw [HT.out])) ?_
  refine rel_val2 (t := 70) (t' := 73) (v1 := .bool true) (v2 := .bool true) (v := .bool true) trivial (by kernel_rfl) (by kernel_rfl) (by kernel_rfl) (by kernel_rfl) (by intro ρ w hc h1 h2; go_simp) ?_
  refine rel_move (t := 74) (v := .bool true) rfl trivial (by kernel_rfl) (by kernel_rfl) ?_
  refine rel_move (t := 9) (v := .int .i64 (-10000)) rfl ⟨75, by kernel_rfl, by kernel_rfl⟩ (by kernel_rfl) (by kernel_rfl) ?_
  refine rel_val1 (t := 76) (v1 := .int .i64 (-10000)) (v := .bool true) ⟨75, by kernel_rfl, by kernel_rfl⟩ (by kernel_rfl) (by kernel_rfl) (by intro ρ w hc h1; go_simp) ?_
  refine rel_val2 (t := 75) (t' := 77) (v1 := .bool true) (v2 := .bool true) (v := .bool true) trivial (by kernel_rfl) (by kernel_rfl) (by kernel_rfl) (by kernel_rfl) (by intro ρ w hc h1 h2; go_simp) ?_
  refine rel_move (t := 78) (v := .bool true) rfl trivial (by kernel_rfl) (by kernel_rfl) ?_
  refine rel_move (t := 10) (v := .bool true) rfl ⟨79, by kernel_rfl, by kernel_rfl⟩ (by kernel_rfl) (by kernel_rfl) ?_
  refine rel_val2 (t := 79) (t' := 80) (v1 := .bool true) (v2 := .bool true) (v := .bool true) trivial (by kernel_rfl) (by kernel_rfl) (by kernel_rfl) (by kernel_rfl) (by intro ρ w hc h1 h2; go_simp) ?_
  refine rel_move (t := 81) (v := .bool true) rfl trivial (by kernel_rfl) (by kernel_rfl) ?_
  refine rel_load (t := 11) (g := w9.heap.size) (D := d9) ⟨82, by kernel_rfl, by kernel_rfl⟩ (by kernel_rfl) (by kernel_rfl) (fun w h => ⟨_, _, (b9.out.ext h).cell0, (b9.out.ext h).cell1, n9.out.ext h⟩) (by intro ρ w x y h1 h2 h3; go_simp) ?_
  refine rel_call0 (Nms (⟨[], [(1, 19999)]⟩)) (Nms.stable _) ⟨82, by kernel_rfl, by kernel_rfl⟩ (f := 54) #[.int .i64 1, .int .i64 19999] (by intro ρ w hc hf; go_simp) (fun w hE => fracsL_any w 1 19999) ?_
  refine rel_call2 (Is (.bool true)) (Is.stable _) ⟨82, by kernel_rfl, by kernel_rfl⟩ (f := 14) (fun u u' => #[u, u']) (t := 83) (t' := 84) (S := (Nms (d9))) (S' := (Nms (⟨[], [(1, 19999)]⟩))) (by kernel_rfl) (by kernel_rfl) (by kernel_rfl) (by kernel_rfl) (by intro ρ w hc hf; go_simp) (fun w u u' hE hu hu' => conB (sameR_any w u d9 hu u' ⟨[], [(1, 19999)]⟩ hu' s9.out ⟨by decide, by decide⟩) (by rw [HJ.out])) ?_
  refine rel_val2 (t := 82) (t' := 85) (v1 := .bool true) (v2 := .bool true) (v := .bool true) trivial (by kernel_rfl) (by kernel_rfl) (by kernel_rfl) (by kernel_rfl) (by intro ρ w hc h1 h2; go_simp) ?_
  refine rel_move (t := 86) (v := .bool true) rfl trivial (by kernel_rfl) (by kernel_rfl) ?_
  refine rel_val0 (v := .agg #[.slice none 0 0, .slice none 0 0]) ⟨87, by kernel_rfl, by kernel_rfl⟩ (by intro ρ w hc; go_simp) ?_
  refine rel_call0 (Nms (allN)) (Nms.stable _) ⟨87, by kernel_rfl, by kernel_rfl⟩ (f := 31) #[] (by intro ρ w hc hf; go_simp) (fun w hE => allP_any w) ?_
  refine rel_call2 (Is (.int .i64 1)) (Is.stable _) ⟨87, by kernel_rfl, by kernel_rfl⟩ (f := 26) (fun u u' => #[u, u']) (t := 88) (t' := 89) (S := (Is (.agg #[.slice none 0 0, .slice none 0 0]))) (S' := (Nms (allN))) (by kernel_rfl) (by kernel_rfl) (by kernel_rfl) (by kernel_rfl) (by intro ρ w hc hf; go_simp) (fun w u u' hE hu hu' => conB (cmpP_any w u ⟨[], []⟩ (by rw [show u = _ from hu]; exact nm_nil w) u' allN hu' ⟨by decide, by decide⟩ ⟨by decide, by decide⟩ (fun s hs => (by cases hs)) allN_inr) (by rw [cmp_ex])) ?_
  refine rel_val1 (t := 90) (v1 := .int .i64 1) (v := .bool true) ⟨87, by kernel_rfl, by kernel_rfl⟩ (by kernel_rfl) (by kernel_rfl) (by intro ρ w hc h1; go_simp) ?_
  refine rel_val2 (t := 87) (t' := 91) (v1 := .bool true) (v2 := .bool true) (v := .bool true) trivial (by kernel_rfl) (by kernel_rfl) (by kernel_rfl) (by kernel_rfl) (by intro ρ w hc h1 h2; go_simp) ?_
  refine rel_move (t := 92) (v := .bool true) rfl trivial (by kernel_rfl) (by kernel_rfl) ?_
  refine rel_call0 (Nms (⟨[], [(0, 10000)]⟩)) (Nms.stable _) ⟨93, by kernel_rfl, by kernel_rfl⟩ (f := 54) #[.int .i64 0, .int .i64 10000] (by intro ρ w hc hf; go_simp) (fun w hE => fracsL_any w 0 10000) ?_
  refine rel_call1 (Is (.int .i64 9999)) (Is.stable _) ⟨93, by kernel_rfl, by kernel_rfl⟩ (f := 24) (fun u => #[u]) (t := 94) (S := (Nms (⟨[], [(0, 10000)]⟩))) (by kernel_rfl) (by kernel_rfl) (by intro ρ w hc hf; go_simp) (fun w u hE hu => conB (countP_any w u ⟨[], [(0, 10000)]⟩ hu ⟨by decide, by decide⟩ (fun s hs => by simp at hs; subst hs; simp only; omega)) (by rw [count_ex])) ?_
  refine rel_val1 (t := 95) (v1 := .int .i64 9999) (v := .bool true) ⟨93, by kernel_rfl, by kernel_rfl⟩ (by kernel_rfl) (by kernel_rfl) (by intro ρ w hc h1; go_simp) ?_
  refine rel_val2 (t := 93) (t' := 96) (v1 := .bool true) (v2 := .bool true) (v := .bool true) trivial (by kernel_rfl) (by kernel_rfl) (by kernel_rfl) (by kernel_rfl) (by intro ρ w hc h1 h2; go_simp) ?_
  refine rel_assign_fin (t := 97) (d := 0) (v := .bool true) rfl rfl trivial (by kernel_rfl) (by kernel_rfl) (of_decide_eq_true (by kernel_rfl)) ?_
  intro a' w5 hE5 hv hd
  have HV := Lib.hid hv
  have hd2 : a'.defers = [] := hd
  have HD2 := Lib.hid hd2
  have HF := Lib.hid (HEW.out.trans hE5)
  clear hv hd hd2 hE5
  apply_assumption
  go_wp2
  refine bodyPost_ret (v := .bool true) ?_ HD2.out ⟨rfl, HF.out⟩
  rw [results_tmp (t := 0) rfl, HV.out]
end Go.Proofs.Ytaianhhmmacblaa
