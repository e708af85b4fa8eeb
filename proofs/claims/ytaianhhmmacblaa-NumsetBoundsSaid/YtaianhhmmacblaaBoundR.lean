import Derived.Test.YtaianhhmmacblaaBounds0
import Derived.Test.YtaianhhmmacblaaRef7
/-
  The reference's Bound.
-/
namespace Go.Proofs.Ytaianhhmmacblaa
open Go.RowKit

theorem less_nm (u : Int) : lessN u = ⟨[(-100000000000, floorI (u - 1))], [(-1000000000000000, u - 1)]⟩ := rfl
theorem most_nm (u : Int) : mostN u = ⟨[(-100000000000, floorI u)], [(-1000000000000000, u)]⟩ := rfl

set_option maxRecDepth 100000 in
set_option maxHeartbeats 1000000 in
theorem boundR_lt (w : World) (op : ByteArray) (u : Int) (hu : -9223372036854775808 ≤ u ∧ u ≤ 9223372036854775807) (g0 : eqS op opLt = true) : Calls Try.prog 13 #[.string op, .int .i64 u] w fun e w' => ∃ r, e = .returned (.tuple #[r, .int .i64 (boundR op u).2]) ∧ NmAt w' r (boundR op u).1 ∧ Ext w w' := by
  have hdef : Hid (boundR op u = if !opsL.any (eqS op) then (⟨[], []⟩, 8) else if !validB u then (⟨[], []⟩, 1) else (boundSR op (lessN u) (mostN u), 0)) := Lib.hid rfl
  go_enter Try.func13, Try.ntmps13
  have br := BlkN.new w (.slice none 0 0) (.slice none 0 0)
  have hEW : Ext w (w.alloc (.cells #[.slice none 0 0, .slice none 0 0] 24)) := (Ext.refl w).alloc _
  generalize hWa : w.alloc (.cells #[.slice none 0 0, .slice none 0 0] 24) = Wa at *
  have BR := Lib.hid br
  have HE := Lib.hid hEW
  clear br hEW
  have q0 : (op.toList == [60]) = true := by rw [← tl_lt]; exact g0
  have hk : opsL.any (eqS op) = true := by unfold opsL; simp [g0]
  have HK := Lib.hid hk
  clear hk
  have hv := valid_iff u
  have hcv := fun W => validR_any u W
  generalize validB u = vb at *
  cases vb
  · have hd : boundR op u = (⟨[], []⟩, 1) := by rw [hdef.out, HK.out]; rfl
    have HD := Lib.hid hd
    clear hd hdef hv
    go_wp2_with fail
    refine (hcv _).mono ?_
    rintro e w' ⟨rfl, rfl⟩
    clear hWa
    have hb3 := BR.out
    have hfin := nm_store_nil hb3 HE.out (by omega)
    have z0 := hb3.cell0
    have z1 := hb3.cell1
    have z2 := hb3.frozen0
    have z3 := fun u => (hb3.set0 u).frozen0 1
    have z4 := fun u => (hb3.set0 u).cell1
    obtain ⟨n1, n2, n3, n4⟩ := hfin
    have N1 := Lib.hid n1
    have N2 := Lib.hid n2
    clear n1 n2 hb3
    go_wp2
    exact bodyPost_ret (v := .tuple #[.agg #[.slice none 0 0, .slice none 0 0], .int .i64 1]) (by simp [results, Try.results13, go_sem, n3, n4]) rfl ⟨_, by rw [HD.out], by rw [HD.out]; exact N1.out, N2.out⟩
  · have hq : boundSR op (lessN u) (mostN u) = makeR (lessN u) := by unfold boundSR; simp [g0]
    have HQ := Lib.hid hq
    clear hq
    have hd : boundR op u = (boundSR op (lessN u) (mostN u), 0) := by rw [hdef.out, HK.out]; rfl
    have HD := Lib.hid hd
    have hvu := hv.1 rfl
    clear hd hdef hv g0
    have b1 : -1000000000000 ≤ floorI (u - 1) ∧ floorI (u - 1) ≤ 1000000000000 := by unfold floorI; omega
    have b3 : -1000000000000 ≤ floorI u ∧ floorI u ≤ 1000000000000 := by unfold floorI; omega
    go_wp2_with fail
    refine (hcv _).mono ?_
    rintro e w' ⟨rfl, rfl⟩
    go_wp2_with fail
    refine (floorR_any _ _ (by omega) (by omega)).mono ?_
    rintro e w' ⟨rfl, rfl⟩
    clear hcv hWa
    have nm1 := nm_two Wa (-100000000000) (floorI (u - 1)) (-1000000000000000) (u - 1)
    have b6 := BlkN.new ((Wa.alloc (.cells #[.int .i64 (-100000000000), .int .i64 (floorI (u - 1))] 45)).alloc (.cells #[.int .i64 (-1000000000000000), .int .i64 (u - 1)] 45)) (.slice (some ⟨Wa.heap.size, 0, none⟩) 1 1) (.slice (some ⟨Wa.heap.size + 1, 0, none⟩) 1 1)
    have nm1 := nm1.ext ((Ext.refl _).alloc (.cells #[.slice (some ⟨Wa.heap.size, 0, none⟩) 1 1, .slice (some ⟨Wa.heap.size + 1, 0, none⟩) 1 1] 24))
    have hE6 := (((Ext.refl Wa).alloc (.cells #[.int .i64 (-100000000000), .int .i64 (floorI (u - 1))] 45)).alloc (.cells #[.int .i64 (-1000000000000000), .int .i64 (u - 1)] 45)).alloc (.cells #[.slice (some ⟨Wa.heap.size, 0, none⟩) 1 1, .slice (some ⟨Wa.heap.size + 1, 0, none⟩) 1 1] 24)
    rw [show ((Wa.alloc (.cells #[.int .i64 (-100000000000), .int .i64 (floorI (u - 1))] 45)).alloc (.cells #[.int .i64 (-1000000000000000), .int .i64 (u - 1)] 45)).heap.size = Wa.heap.size + 2 by simp] at b6
    generalize hWc : ((Wa.alloc (.cells #[.int .i64 (-100000000000), .int .i64 (floorI (u - 1))] 45)).alloc (.cells #[.int .i64 (-1000000000000000), .int .i64 (u - 1)] 45)).alloc (.cells #[.slice (some ⟨Wa.heap.size, 0, none⟩) 1 1, .slice (some ⟨Wa.heap.size + 1, 0, none⟩) 1 1] 24) = Wc at *
    rw [← less_nm] at nm1
    have NL := Lib.hid nm1
    have B6 := Lib.hid b6
    have HE6 := Lib.hid hE6
    clear nm1 b6 hE6
    go_wp2_with fail
    refine (floorR_any _ _ (by omega) (by omega)).mono ?_
    rintro e w' ⟨rfl, rfl⟩
    clear hWc
    have nm1 := nm_two Wc (-100000000000) (floorI u) (-1000000000000000) u
    have b7 := BlkN.new ((Wc.alloc (.cells #[.int .i64 (-100000000000), .int .i64 (floorI u)] 45)).alloc (.cells #[.int .i64 (-1000000000000000), .int .i64 u] 45)) (.slice (some ⟨Wc.heap.size, 0, none⟩) 1 1) (.slice (some ⟨Wc.heap.size + 1, 0, none⟩) 1 1)
    have nm1 := nm1.ext ((Ext.refl _).alloc (.cells #[.slice (some ⟨Wc.heap.size, 0, none⟩) 1 1, .slice (some ⟨Wc.heap.size + 1, 0, none⟩) 1 1] 24))
    have hE7 := (((Ext.refl Wc).alloc (.cells #[.int .i64 (-100000000000), .int .i64 (floorI u)] 45)).alloc (.cells #[.int .i64 (-1000000000000000), .int .i64 u] 45)).alloc (.cells #[.slice (some ⟨Wc.heap.size, 0, none⟩) 1 1, .slice (some ⟨Wc.heap.size + 1, 0, none⟩) 1 1] 24)
    rw [show ((Wc.alloc (.cells #[.int .i64 (-100000000000), .int .i64 (floorI u)] 45)).alloc (.cells #[.int .i64 (-1000000000000000), .int .i64 u] 45)).heap.size = Wc.heap.size + 2 by simp] at b7
    generalize hWd : ((Wc.alloc (.cells #[.int .i64 (-100000000000), .int .i64 (floorI u)] 45)).alloc (.cells #[.int .i64 (-1000000000000000), .int .i64 u] 45)).alloc (.cells #[.slice (some ⟨Wc.heap.size, 0, none⟩) 1 1, .slice (some ⟨Wc.heap.size + 1, 0, none⟩) 1 1] 24) = Wd at *
    rw [← most_nm] at nm1
    have NO := Lib.hid nm1
    have BR := Lib.hid (BR.out.ext (HE6.out.trans hE7))
    have B6 := Lib.hid (B6.out.ext hE7)
    have NL := Lib.hid (NL.out.ext hE7)
    have HE := Lib.hid ((HE.out.trans HE6.out).trans hE7)
    have b6a := B6.out.cell0
    have b6b := B6.out.cell1
    have b7a := b7.cell0
    have b7b := b7.cell1
    have sz1 : Hid (Sz 1 (lessN u)) := Lib.hid ⟨Nat.le_refl 1, Nat.le_refl 1⟩
    have sz2 : Hid (Sz 1 (mostN u)) := Lib.hid ⟨Nat.le_refl 1, Nat.le_refl 1⟩
    generalize lessN u = less at *
    generalize mostN u = most at *
    clear b7 hE7 nm1 HE6 B6 hvu b1 b3
    go_wp2_with fail
    refine (makeR_any _ _ less NL.out (sz1.out.mono (by omega))).mono ?_
    rintro e w3 ⟨r3, rfl, hm3, hE3⟩
    have hE9 : Ext Wd w3 := hE3
    have hb3 := BR.out.ext hE9
    obtain ⟨Ar, cr, Ar', cr', rfl, hr1, hr2⟩ := hm3
    have hfin := nm_store (d := makeR less) (c := cr) (c' := cr') hb3 hr1 hr2 (HE.out.trans hE9) (by omega)
    have z0 := hb3.cell0
    have z1 := hb3.cell1
    have z2 := hb3.frozen0
    have z3 := fun u => (hb3.set0 u).frozen0 1
    have z4 := fun u => (hb3.set0 u).cell1
    obtain ⟨n1, n2, n3, n4⟩ := hfin
    have N1 := Lib.hid n1
    have N2 := Lib.hid n2
    clear n1 n2 hr1 hr2 hE9 hb3
    go_wp2
    exact bodyPost_ret (v := .tuple #[.agg #[.slice Ar (makeR less).ints.length cr, .slice Ar' (makeR less).fracs.length cr'], .int .i64 0]) (by simp [results, Try.results13, go_sem, n3, n4]) rfl ⟨_, by rw [HD.out], by rw [HD.out, HQ.out]; exact N1.out, N2.out⟩

set_option maxRecDepth 100000 in
set_option maxHeartbeats 1000000 in
theorem boundR_le (w : World) (op : ByteArray) (u : Int) (hu : -9223372036854775808 ≤ u ∧ u ≤ 9223372036854775807) (g0 : eqS op opLt = false) (g1 : eqS op opLe = true) : Calls Try.prog 13 #[.string op, .int .i64 u] w fun e w' => ∃ r, e = .returned (.tuple #[r, .int .i64 (boundR op u).2]) ∧ NmAt w' r (boundR op u).1 ∧ Ext w w' := by
  have hdef : Hid (boundR op u = if !opsL.any (eqS op) then (⟨[], []⟩, 8) else if !validB u then (⟨[], []⟩, 1) else (boundSR op (lessN u) (mostN u), 0)) := Lib.hid rfl
  go_enter Try.func13, Try.ntmps13
  have br := BlkN.new w (.slice none 0 0) (.slice none 0 0)
  have hEW : Ext w (w.alloc (.cells #[.slice none 0 0, .slice none 0 0] 24)) := (Ext.refl w).alloc _
  generalize hWa : w.alloc (.cells #[.slice none 0 0, .slice none 0 0] 24) = Wa at *
  have BR := Lib.hid br
  have HE := Lib.hid hEW
  clear br hEW
  have q0 : (op.toList == [60]) = false := by rw [← tl_lt]; exact g0
  have q1 : (op.toList == [60, 61]) = true := by rw [← tl_le]; exact g1
  have hk : opsL.any (eqS op) = true := by unfold opsL; simp [g0, g1]
  have HK := Lib.hid hk
  clear hk
  have hv := valid_iff u
  have hcv := fun W => validR_any u W
  generalize validB u = vb at *
  cases vb
  · have hd : boundR op u = (⟨[], []⟩, 1) := by rw [hdef.out, HK.out]; rfl
    have HD := Lib.hid hd
    clear hd hdef hv
    go_wp2_with fail
    refine (hcv _).mono ?_
    rintro e w' ⟨rfl, rfl⟩
    clear hWa
    have hb3 := BR.out
    have hfin := nm_store_nil hb3 HE.out (by omega)
    have z0 := hb3.cell0
    have z1 := hb3.cell1
    have z2 := hb3.frozen0
    have z3 := fun u => (hb3.set0 u).frozen0 1
    have z4 := fun u => (hb3.set0 u).cell1
    obtain ⟨n1, n2, n3, n4⟩ := hfin
    have N1 := Lib.hid n1
    have N2 := Lib.hid n2
    clear n1 n2 hb3
    go_wp2
    exact bodyPost_ret (v := .tuple #[.agg #[.slice none 0 0, .slice none 0 0], .int .i64 1]) (by simp [results, Try.results13, go_sem, n3, n4]) rfl ⟨_, by rw [HD.out], by rw [HD.out]; exact N1.out, N2.out⟩
  · have hq : boundSR op (lessN u) (mostN u) = makeR (mostN u) := by unfold boundSR; simp [g0, g1]
    have HQ := Lib.hid hq
    clear hq
    have hd : boundR op u = (boundSR op (lessN u) (mostN u), 0) := by rw [hdef.out, HK.out]; rfl
    have HD := Lib.hid hd
    have hvu := hv.1 rfl
    clear hd hdef hv g0 g1
    have b1 : -1000000000000 ≤ floorI (u - 1) ∧ floorI (u - 1) ≤ 1000000000000 := by unfold floorI; omega
    have b3 : -1000000000000 ≤ floorI u ∧ floorI u ≤ 1000000000000 := by unfold floorI; omega
    go_wp2_with fail
    refine (hcv _).mono ?_
    rintro e w' ⟨rfl, rfl⟩
    go_wp2_with fail
    refine (floorR_any _ _ (by omega) (by omega)).mono ?_
    rintro e w' ⟨rfl, rfl⟩
    clear hcv hWa
    have nm1 := nm_two Wa (-100000000000) (floorI (u - 1)) (-1000000000000000) (u - 1)
    have b6 := BlkN.new ((Wa.alloc (.cells #[.int .i64 (-100000000000), .int .i64 (floorI (u - 1))] 45)).alloc (.cells #[.int .i64 (-1000000000000000), .int .i64 (u - 1)] 45)) (.slice (some ⟨Wa.heap.size, 0, none⟩) 1 1) (.slice (some ⟨Wa.heap.size + 1, 0, none⟩) 1 1)
    have nm1 := nm1.ext ((Ext.refl _).alloc (.cells #[.slice (some ⟨Wa.heap.size, 0, none⟩) 1 1, .slice (some ⟨Wa.heap.size + 1, 0, none⟩) 1 1] 24))
    have hE6 := (((Ext.refl Wa).alloc (.cells #[.int .i64 (-100000000000), .int .i64 (floorI (u - 1))] 45)).alloc (.cells #[.int .i64 (-1000000000000000), .int .i64 (u - 1)] 45)).alloc (.cells #[.slice (some ⟨Wa.heap.size, 0, none⟩) 1 1, .slice (some ⟨Wa.heap.size + 1, 0, none⟩) 1 1] 24)
    rw [show ((Wa.alloc (.cells #[.int .i64 (-100000000000), .int .i64 (floorI (u - 1))] 45)).alloc (.cells #[.int .i64 (-1000000000000000), .int .i64 (u - 1)] 45)).heap.size = Wa.heap.size + 2 by simp] at b6
    generalize hWc : ((Wa.alloc (.cells #[.int .i64 (-100000000000), .int .i64 (floorI (u - 1))] 45)).alloc (.cells #[.int .i64 (-1000000000000000), .int .i64 (u - 1)] 45)).alloc (.cells #[.slice (some ⟨Wa.heap.size, 0, none⟩) 1 1, .slice (some ⟨Wa.heap.size + 1, 0, none⟩) 1 1] 24) = Wc at *
    rw [← less_nm] at nm1
    have NL := Lib.hid nm1
    have B6 := Lib.hid b6
    have HE6 := Lib.hid hE6
    clear nm1 b6 hE6
    go_wp2_with fail
    refine (floorR_any _ _ (by omega) (by omega)).mono ?_
    rintro e w' ⟨rfl, rfl⟩
    clear hWc
    have nm1 := nm_two Wc (-100000000000) (floorI u) (-1000000000000000) u
    have b7 := BlkN.new ((Wc.alloc (.cells #[.int .i64 (-100000000000), .int .i64 (floorI u)] 45)).alloc (.cells #[.int .i64 (-1000000000000000), .int .i64 u] 45)) (.slice (some ⟨Wc.heap.size, 0, none⟩) 1 1) (.slice (some ⟨Wc.heap.size + 1, 0, none⟩) 1 1)
    have nm1 := nm1.ext ((Ext.refl _).alloc (.cells #[.slice (some ⟨Wc.heap.size, 0, none⟩) 1 1, .slice (some ⟨Wc.heap.size + 1, 0, none⟩) 1 1] 24))
    have hE7 := (((Ext.refl Wc).alloc (.cells #[.int .i64 (-100000000000), .int .i64 (floorI u)] 45)).alloc (.cells #[.int .i64 (-1000000000000000), .int .i64 u] 45)).alloc (.cells #[.slice (some ⟨Wc.heap.size, 0, none⟩) 1 1, .slice (some ⟨Wc.heap.size + 1, 0, none⟩) 1 1] 24)
    rw [show ((Wc.alloc (.cells #[.int .i64 (-100000000000), .int .i64 (floorI u)] 45)).alloc (.cells #[.int .i64 (-1000000000000000), .int .i64 u] 45)).heap.size = Wc.heap.size + 2 by simp] at b7
    generalize hWd : ((Wc.alloc (.cells #[.int .i64 (-100000000000), .int .i64 (floorI u)] 45)).alloc (.cells #[.int .i64 (-1000000000000000), .int .i64 u] 45)).alloc (.cells #[.slice (some ⟨Wc.heap.size, 0, none⟩) 1 1, .slice (some ⟨Wc.heap.size + 1, 0, none⟩) 1 1] 24) = Wd at *
    rw [← most_nm] at nm1
    have NO := Lib.hid nm1
    have BR := Lib.hid (BR.out.ext (HE6.out.trans hE7))
    have B6 := Lib.hid (B6.out.ext hE7)
    have NL := Lib.hid (NL.out.ext hE7)
    have HE := Lib.hid ((HE.out.trans HE6.out).trans hE7)
    have b6a := B6.out.cell0
    have b6b := B6.out.cell1
    have b7a := b7.cell0
    have b7b := b7.cell1
    have sz1 : Hid (Sz 1 (lessN u)) := Lib.hid ⟨Nat.le_refl 1, Nat.le_refl 1⟩
    have sz2 : Hid (Sz 1 (mostN u)) := Lib.hid ⟨Nat.le_refl 1, Nat.le_refl 1⟩
    generalize lessN u = less at *
    generalize mostN u = most at *
    clear b7 hE7 nm1 HE6 B6 hvu b1 b3
    go_wp2_with fail
    refine (makeR_any _ _ most NO.out (sz2.out.mono (by omega))).mono ?_
    rintro e w3 ⟨r3, rfl, hm3, hE3⟩
    have hE9 : Ext Wd w3 := hE3
    have hb3 := BR.out.ext hE9
    obtain ⟨Ar, cr, Ar', cr', rfl, hr1, hr2⟩ := hm3
    have hfin := nm_store (d := makeR most) (c := cr) (c' := cr') hb3 hr1 hr2 (HE.out.trans hE9) (by omega)
    have z0 := hb3.cell0
    have z1 := hb3.cell1
    have z2 := hb3.frozen0
    have z3 := fun u => (hb3.set0 u).frozen0 1
    have z4 := fun u => (hb3.set0 u).cell1
    obtain ⟨n1, n2, n3, n4⟩ := hfin
    have N1 := Lib.hid n1
    have N2 := Lib.hid n2
    clear n1 n2 hr1 hr2 hE9 hb3
    go_wp2
    exact bodyPost_ret (v := .tuple #[.agg #[.slice Ar (makeR most).ints.length cr, .slice Ar' (makeR most).fracs.length cr'], .int .i64 0]) (by simp [results, Try.results13, go_sem, n3, n4]) rfl ⟨_, by rw [HD.out], by rw [HD.out, HQ.out]; exact N1.out, N2.out⟩

set_option maxRecDepth 100000 in
set_option maxHeartbeats 1000000 in
theorem boundR_gt (w : World) (op : ByteArray) (u : Int) (hu : -9223372036854775808 ≤ u ∧ u ≤ 9223372036854775807) (g0 : eqS op opLt = false) (g1 : eqS op opLe = false) (g2 : eqS op opGt = true) : Calls Try.prog 13 #[.string op, .int .i64 u] w fun e w' => ∃ r, e = .returned (.tuple #[r, .int .i64 (boundR op u).2]) ∧ NmAt w' r (boundR op u).1 ∧ Ext w w' := by
  have hdef : Hid (boundR op u = if !opsL.any (eqS op) then (⟨[], []⟩, 8) else if !validB u then (⟨[], []⟩, 1) else (boundSR op (lessN u) (mostN u), 0)) := Lib.hid rfl
  go_enter Try.func13, Try.ntmps13
  have br := BlkN.new w (.slice none 0 0) (.slice none 0 0)
  have hEW : Ext w (w.alloc (.cells #[.slice none 0 0, .slice none 0 0] 24)) := (Ext.refl w).alloc _
  generalize hWa : w.alloc (.cells #[.slice none 0 0, .slice none 0 0] 24) = Wa at *
  have BR := Lib.hid br
  have HE := Lib.hid hEW
  clear br hEW
  have q0 : (op.toList == [60]) = false := by rw [← tl_lt]; exact g0
  have q1 : (op.toList == [60, 61]) = false := by rw [← tl_le]; exact g1
  have q2 : (op.toList == [62]) = true := by rw [← tl_gt]; exact g2
  have hk : opsL.any (eqS op) = true := by unfold opsL; simp [g0, g1, g2]
  have HK := Lib.hid hk
  clear hk
  have hv := valid_iff u
  have hcv := fun W => validR_any u W
  generalize validB u = vb at *
  cases vb
  · have hd : boundR op u = (⟨[], []⟩, 1) := by rw [hdef.out, HK.out]; rfl
    have HD := Lib.hid hd
    clear hd hdef hv
    go_wp2_with fail
    refine (hcv _).mono ?_
    rintro e w' ⟨rfl, rfl⟩
    clear hWa
    have hb3 := BR.out
    have hfin := nm_store_nil hb3 HE.out (by omega)
    have z0 := hb3.cell0
    have z1 := hb3.cell1
    have z2 := hb3.frozen0
    have z3 := fun u => (hb3.set0 u).frozen0 1
    have z4 := fun u => (hb3.set0 u).cell1
    obtain ⟨n1, n2, n3, n4⟩ := hfin
    have N1 := Lib.hid n1
    have N2 := Lib.hid n2
    clear n1 n2 hb3
    go_wp2
    exact bodyPost_ret (v := .tuple #[.agg #[.slice none 0 0, .slice none 0 0], .int .i64 1]) (by simp [results, Try.results13, go_sem, n3, n4]) rfl ⟨_, by rw [HD.out], by rw [HD.out]; exact N1.out, N2.out⟩
  · have hq : boundSR op (lessN u) (mostN u) = notR (mostN u) := by unfold boundSR; simp [g0, g1, g2]
    have HQ := Lib.hid hq
    clear hq
    have hd : boundR op u = (boundSR op (lessN u) (mostN u), 0) := by rw [hdef.out, HK.out]; rfl
    have HD := Lib.hid hd
    have hvu := hv.1 rfl
    clear hd hdef hv g0 g1 g2
    have b1 : -1000000000000 ≤ floorI (u - 1) ∧ floorI (u - 1) ≤ 1000000000000 := by unfold floorI; omega
    have b3 : -1000000000000 ≤ floorI u ∧ floorI u ≤ 1000000000000 := by unfold floorI; omega
    go_wp2_with fail
    refine (hcv _).mono ?_
    rintro e w' ⟨rfl, rfl⟩
    go_wp2_with fail
    refine (floorR_any _ _ (by omega) (by omega)).mono ?_
    rintro e w' ⟨rfl, rfl⟩
    clear hcv hWa
    have nm1 := nm_two Wa (-100000000000) (floorI (u - 1)) (-1000000000000000) (u - 1)
    have b6 := BlkN.new ((Wa.alloc (.cells #[.int .i64 (-100000000000), .int .i64 (floorI (u - 1))] 45)).alloc (.cells #[.int .i64 (-1000000000000000), .int .i64 (u - 1)] 45)) (.slice (some ⟨Wa.heap.size, 0, none⟩) 1 1) (.slice (some ⟨Wa.heap.size + 1, 0, none⟩) 1 1)
    have nm1 := nm1.ext ((Ext.refl _).alloc (.cells #[.slice (some ⟨Wa.heap.size, 0, none⟩) 1 1, .slice (some ⟨Wa.heap.size + 1, 0, none⟩) 1 1] 24))
    have hE6 := (((Ext.refl Wa).alloc (.cells #[.int .i64 (-100000000000), .int .i64 (floorI (u - 1))] 45)).alloc (.cells #[.int .i64 (-1000000000000000), .int .i64 (u - 1)] 45)).alloc (.cells #[.slice (some ⟨Wa.heap.size, 0, none⟩) 1 1, .slice (some ⟨Wa.heap.size + 1, 0, none⟩) 1 1] 24)
    rw [show ((Wa.alloc (.cells #[.int .i64 (-100000000000), .int .i64 (floorI (u - 1))] 45)).alloc (.cells #[.int .i64 (-1000000000000000), .int .i64 (u - 1)] 45)).heap.size = Wa.heap.size + 2 by simp] at b6
    generalize hWc : ((Wa.alloc (.cells #[.int .i64 (-100000000000), .int .i64 (floorI (u - 1))] 45)).alloc (.cells #[.int .i64 (-1000000000000000), .int .i64 (u - 1)] 45)).alloc (.cells #[.slice (some ⟨Wa.heap.size, 0, none⟩) 1 1, .slice (some ⟨Wa.heap.size + 1, 0, none⟩) 1 1] 24) = Wc at *
    rw [← less_nm] at nm1
    have NL := Lib.hid nm1
    have B6 := Lib.hid b6
    have HE6 := Lib.hid hE6
    clear nm1 b6 hE6
    go_wp2_with fail
    refine (floorR_any _ _ (by omega) (by omega)).mono ?_
    rintro e w' ⟨rfl, rfl⟩
    clear hWc
    have nm1 := nm_two Wc (-100000000000) (floorI u) (-1000000000000000) u
    have b7 := BlkN.new ((Wc.alloc (.cells #[.int .i64 (-100000000000), .int .i64 (floorI u)] 45)).alloc (.cells #[.int .i64 (-1000000000000000), .int .i64 u] 45)) (.slice (some ⟨Wc.heap.size, 0, none⟩) 1 1) (.slice (some ⟨Wc.heap.size + 1, 0, none⟩) 1 1)
    have nm1 := nm1.ext ((Ext.refl _).alloc (.cells #[.slice (some ⟨Wc.heap.size, 0, none⟩) 1 1, .slice (some ⟨Wc.heap.size + 1, 0, none⟩) 1 1] 24))
    have hE7 := (((Ext.refl Wc).alloc (.cells #[.int .i64 (-100000000000), .int .i64 (floorI u)] 45)).alloc (.cells #[.int .i64 (-1000000000000000), .int .i64 u] 45)).alloc (.cells #[.slice (some ⟨Wc.heap.size, 0, none⟩) 1 1, .slice (some ⟨Wc.heap.size + 1, 0, none⟩) 1 1] 24)
    rw [show ((Wc.alloc (.cells #[.int .i64 (-100000000000), .int .i64 (floorI u)] 45)).alloc (.cells #[.int .i64 (-1000000000000000), .int .i64 u] 45)).heap.size = Wc.heap.size + 2 by simp] at b7
    generalize hWd : ((Wc.alloc (.cells #[.int .i64 (-100000000000), .int .i64 (floorI u)] 45)).alloc (.cells #[.int .i64 (-1000000000000000), .int .i64 u] 45)).alloc (.cells #[.slice (some ⟨Wc.heap.size, 0, none⟩) 1 1, .slice (some ⟨Wc.heap.size + 1, 0, none⟩) 1 1] 24) = Wd at *
    rw [← most_nm] at nm1
    have NO := Lib.hid nm1
    have BR := Lib.hid (BR.out.ext (HE6.out.trans hE7))
    have B6 := Lib.hid (B6.out.ext hE7)
    have NL := Lib.hid (NL.out.ext hE7)
    have HE := Lib.hid ((HE.out.trans HE6.out).trans hE7)
    have b6a := B6.out.cell0
    have b6b := B6.out.cell1
    have b7a := b7.cell0
    have b7b := b7.cell1
    have sz1 : Hid (Sz 1 (lessN u)) := Lib.hid ⟨Nat.le_refl 1, Nat.le_refl 1⟩
    have sz2 : Hid (Sz 1 (mostN u)) := Lib.hid ⟨Nat.le_refl 1, Nat.le_refl 1⟩
    generalize lessN u = less at *
    generalize mostN u = most at *
    clear b7 hE7 nm1 HE6 B6 hvu b1 b3
    go_wp2_with fail
    refine (notR_any _ _ most NO.out (sz2.out.mono (by omega))).mono ?_
    rintro e w3 ⟨r3, rfl, hm3, hE3⟩
    have hE9 : Ext Wd w3 := hE3
    have hb3 := BR.out.ext hE9
    obtain ⟨Ar, cr, Ar', cr', rfl, hr1, hr2⟩ := hm3
    have hfin := nm_store (d := notR most) (c := cr) (c' := cr') hb3 hr1 hr2 (HE.out.trans hE9) (by omega)
    have z0 := hb3.cell0
    have z1 := hb3.cell1
    have z2 := hb3.frozen0
    have z3 := fun u => (hb3.set0 u).frozen0 1
    have z4 := fun u => (hb3.set0 u).cell1
    obtain ⟨n1, n2, n3, n4⟩ := hfin
    have N1 := Lib.hid n1
    have N2 := Lib.hid n2
    clear n1 n2 hr1 hr2 hE9 hb3
    go_wp2
    exact bodyPost_ret (v := .tuple #[.agg #[.slice Ar (notR most).ints.length cr, .slice Ar' (notR most).fracs.length cr'], .int .i64 0]) (by simp [results, Try.results13, go_sem, n3, n4]) rfl ⟨_, by rw [HD.out], by rw [HD.out, HQ.out]; exact N1.out, N2.out⟩

set_option maxRecDepth 100000 in
set_option maxHeartbeats 1000000 in
theorem boundR_ge (w : World) (op : ByteArray) (u : Int) (hu : -9223372036854775808 ≤ u ∧ u ≤ 9223372036854775807) (g0 : eqS op opLt = false) (g1 : eqS op opLe = false) (g2 : eqS op opGt = false) (g3 : eqS op opGe = true) : Calls Try.prog 13 #[.string op, .int .i64 u] w fun e w' => ∃ r, e = .returned (.tuple #[r, .int .i64 (boundR op u).2]) ∧ NmAt w' r (boundR op u).1 ∧ Ext w w' := by
  have hdef : Hid (boundR op u = if !opsL.any (eqS op) then (⟨[], []⟩, 8) else if !validB u then (⟨[], []⟩, 1) else (boundSR op (lessN u) (mostN u), 0)) := Lib.hid rfl
  go_enter Try.func13, Try.ntmps13
  have br := BlkN.new w (.slice none 0 0) (.slice none 0 0)
  have hEW : Ext w (w.alloc (.cells #[.slice none 0 0, .slice none 0 0] 24)) := (Ext.refl w).alloc _
  generalize hWa : w.alloc (.cells #[.slice none 0 0, .slice none 0 0] 24) = Wa at *
  have BR := Lib.hid br
  have HE := Lib.hid hEW
  clear br hEW
  have q0 : (op.toList == [60]) = false := by rw [← tl_lt]; exact g0
  have q1 : (op.toList == [60, 61]) = false := by rw [← tl_le]; exact g1
  have q2 : (op.toList == [62]) = false := by rw [← tl_gt]; exact g2
  have q3 : (op.toList == [62, 61]) = true := by rw [← tl_ge]; exact g3
  have hk : opsL.any (eqS op) = true := by unfold opsL; simp [g0, g1, g2, g3]
  have HK := Lib.hid hk
  clear hk
  have hv := valid_iff u
  have hcv := fun W => validR_any u W
  generalize validB u = vb at *
  cases vb
  · have hd : boundR op u = (⟨[], []⟩, 1) := by rw [hdef.out, HK.out]; rfl
    have HD := Lib.hid hd
    clear hd hdef hv
    go_wp2_with fail
    refine (hcv _).mono ?_
    rintro e w' ⟨rfl, rfl⟩
    clear hWa
    have hb3 := BR.out
    have hfin := nm_store_nil hb3 HE.out (by omega)
    have z0 := hb3.cell0
    have z1 := hb3.cell1
    have z2 := hb3.frozen0
    have z3 := fun u => (hb3.set0 u).frozen0 1
    have z4 := fun u => (hb3.set0 u).cell1
    obtain ⟨n1, n2, n3, n4⟩ := hfin
    have N1 := Lib.hid n1
    have N2 := Lib.hid n2
    clear n1 n2 hb3
    go_wp2
    exact bodyPost_ret (v := .tuple #[.agg #[.slice none 0 0, .slice none 0 0], .int .i64 1]) (by simp [results, Try.results13, go_sem, n3, n4]) rfl ⟨_, by rw [HD.out], by rw [HD.out]; exact N1.out, N2.out⟩
  · have hq : boundSR op (lessN u) (mostN u) = notR (lessN u) := by unfold boundSR; simp [g0, g1, g2, g3]
    have HQ := Lib.hid hq
    clear hq
    have hd : boundR op u = (boundSR op (lessN u) (mostN u), 0) := by rw [hdef.out, HK.out]; rfl
    have HD := Lib.hid hd
    have hvu := hv.1 rfl
    clear hd hdef hv g0 g1 g2 g3
    have b1 : -1000000000000 ≤ floorI (u - 1) ∧ floorI (u - 1) ≤ 1000000000000 := by unfold floorI; omega
    have b3 : -1000000000000 ≤ floorI u ∧ floorI u ≤ 1000000000000 := by unfold floorI; omega
    go_wp2_with fail
    refine (hcv _).mono ?_
    rintro e w' ⟨rfl, rfl⟩
    go_wp2_with fail
    refine (floorR_any _ _ (by omega) (by omega)).mono ?_
    rintro e w' ⟨rfl, rfl⟩
    clear hcv hWa
    have nm1 := nm_two Wa (-100000000000) (floorI (u - 1)) (-1000000000000000) (u - 1)
    have b6 := BlkN.new ((Wa.alloc (.cells #[.int .i64 (-100000000000), .int .i64 (floorI (u - 1))] 45)).alloc (.cells #[.int .i64 (-1000000000000000), .int .i64 (u - 1)] 45)) (.slice (some ⟨Wa.heap.size, 0, none⟩) 1 1) (.slice (some ⟨Wa.heap.size + 1, 0, none⟩) 1 1)
    have nm1 := nm1.ext ((Ext.refl _).alloc (.cells #[.slice (some ⟨Wa.heap.size, 0, none⟩) 1 1, .slice (some ⟨Wa.heap.size + 1, 0, none⟩) 1 1] 24))
    have hE6 := (((Ext.refl Wa).alloc (.cells #[.int .i64 (-100000000000), .int .i64 (floorI (u - 1))] 45)).alloc (.cells #[.int .i64 (-1000000000000000), .int .i64 (u - 1)] 45)).alloc (.cells #[.slice (some ⟨Wa.heap.size, 0, none⟩) 1 1, .slice (some ⟨Wa.heap.size + 1, 0, none⟩) 1 1] 24)
    rw [show ((Wa.alloc (.cells #[.int .i64 (-100000000000), .int .i64 (floorI (u - 1))] 45)).alloc (.cells #[.int .i64 (-1000000000000000), .int .i64 (u - 1)] 45)).heap.size = Wa.heap.size + 2 by simp] at b6
    generalize hWc : ((Wa.alloc (.cells #[.int .i64 (-100000000000), .int .i64 (floorI (u - 1))] 45)).alloc (.cells #[.int .i64 (-1000000000000000), .int .i64 (u - 1)] 45)).alloc (.cells #[.slice (some ⟨Wa.heap.size, 0, none⟩) 1 1, .slice (some ⟨Wa.heap.size + 1, 0, none⟩) 1 1] 24) = Wc at *
    rw [← less_nm] at nm1
    have NL := Lib.hid nm1
    have B6 := Lib.hid b6
    have HE6 := Lib.hid hE6
    clear nm1 b6 hE6
    go_wp2_with fail
    refine (floorR_any _ _ (by omega) (by omega)).mono ?_
    rintro e w' ⟨rfl, rfl⟩
    clear hWc
    have nm1 := nm_two Wc (-100000000000) (floorI u) (-1000000000000000) u
    have b7 := BlkN.new ((Wc.alloc (.cells #[.int .i64 (-100000000000), .int .i64 (floorI u)] 45)).alloc (.cells #[.int .i64 (-1000000000000000), .int .i64 u] 45)) (.slice (some ⟨Wc.heap.size, 0, none⟩) 1 1) (.slice (some ⟨Wc.heap.size + 1, 0, none⟩) 1 1)
    have nm1 := nm1.ext ((Ext.refl _).alloc (.cells #[.slice (some ⟨Wc.heap.size, 0, none⟩) 1 1, .slice (some ⟨Wc.heap.size + 1, 0, none⟩) 1 1] 24))
    have hE7 := (((Ext.refl Wc).alloc (.cells #[.int .i64 (-100000000000), .int .i64 (floorI u)] 45)).alloc (.cells #[.int .i64 (-1000000000000000), .int .i64 u] 45)).alloc (.cells #[.slice (some ⟨Wc.heap.size, 0, none⟩) 1 1, .slice (some ⟨Wc.heap.size + 1, 0, none⟩) 1 1] 24)
    rw [show ((Wc.alloc (.cells #[.int .i64 (-100000000000), .int .i64 (floorI u)] 45)).alloc (.cells #[.int .i64 (-1000000000000000), .int .i64 u] 45)).heap.size = Wc.heap.size + 2 by simp] at b7
    generalize hWd : ((Wc.alloc (.cells #[.int .i64 (-100000000000), .int .i64 (floorI u)] 45)).alloc (.cells #[.int .i64 (-1000000000000000), .int .i64 u] 45)).alloc (.cells #[.slice (some ⟨Wc.heap.size, 0, none⟩) 1 1, .slice (some ⟨Wc.heap.size + 1, 0, none⟩) 1 1] 24) = Wd at *
    rw [← most_nm] at nm1
    have NO := Lib.hid nm1
    have BR := Lib.hid (BR.out.ext (HE6.out.trans hE7))
    have B6 := Lib.hid (B6.out.ext hE7)
    have NL := Lib.hid (NL.out.ext hE7)
    have HE := Lib.hid ((HE.out.trans HE6.out).trans hE7)
    have b6a := B6.out.cell0
    have b6b := B6.out.cell1
    have b7a := b7.cell0
    have b7b := b7.cell1
    have sz1 : Hid (Sz 1 (lessN u)) := Lib.hid ⟨Nat.le_refl 1, Nat.le_refl 1⟩
    have sz2 : Hid (Sz 1 (mostN u)) := Lib.hid ⟨Nat.le_refl 1, Nat.le_refl 1⟩
    generalize lessN u = less at *
    generalize mostN u = most at *
    clear b7 hE7 nm1 HE6 B6 hvu b1 b3
    go_wp2_with fail
    refine (notR_any _ _ less NL.out (sz1.out.mono (by omega))).mono ?_
    rintro e w3 ⟨r3, rfl, hm3, hE3⟩
    have hE9 : Ext Wd w3 := hE3
    have hb3 := BR.out.ext hE9
    obtain ⟨Ar, cr, Ar', cr', rfl, hr1, hr2⟩ := hm3
    have hfin := nm_store (d := notR less) (c := cr) (c' := cr') hb3 hr1 hr2 (HE.out.trans hE9) (by omega)
    have z0 := hb3.cell0
    have z1 := hb3.cell1
    have z2 := hb3.frozen0
    have z3 := fun u => (hb3.set0 u).frozen0 1
    have z4 := fun u => (hb3.set0 u).cell1
    obtain ⟨n1, n2, n3, n4⟩ := hfin
    have N1 := Lib.hid n1
    have N2 := Lib.hid n2
    clear n1 n2 hr1 hr2 hE9 hb3
    go_wp2
    exact bodyPost_ret (v := .tuple #[.agg #[.slice Ar (notR less).ints.length cr, .slice Ar' (notR less).fracs.length cr'], .int .i64 0]) (by simp [results, Try.results13, go_sem, n3, n4]) rfl ⟨_, by rw [HD.out], by rw [HD.out, HQ.out]; exact N1.out, N2.out⟩

set_option maxRecDepth 100000 in
set_option maxHeartbeats 1000000 in
theorem boundR_eq (w : World) (op : ByteArray) (u : Int) (hu : -9223372036854775808 ≤ u ∧ u ≤ 9223372036854775807) (g0 : eqS op opLt = false) (g1 : eqS op opLe = false) (g2 : eqS op opGt = false) (g3 : eqS op opGe = false) (g4 : eqS op opEq = true) : Calls Try.prog 13 #[.string op, .int .i64 u] w fun e w' => ∃ r, e = .returned (.tuple #[r, .int .i64 (boundR op u).2]) ∧ NmAt w' r (boundR op u).1 ∧ Ext w w' := by
  have hdef : Hid (boundR op u = if !opsL.any (eqS op) then (⟨[], []⟩, 8) else if !validB u then (⟨[], []⟩, 1) else (boundSR op (lessN u) (mostN u), 0)) := Lib.hid rfl
  go_enter Try.func13, Try.ntmps13
  have br := BlkN.new w (.slice none 0 0) (.slice none 0 0)
  have hEW : Ext w (w.alloc (.cells #[.slice none 0 0, .slice none 0 0] 24)) := (Ext.refl w).alloc _
  generalize hWa : w.alloc (.cells #[.slice none 0 0, .slice none 0 0] 24) = Wa at *
  have BR := Lib.hid br
  have HE := Lib.hid hEW
  clear br hEW
  have q0 : (op.toList == [60]) = false := by rw [← tl_lt]; exact g0
  have q1 : (op.toList == [60, 61]) = false := by rw [← tl_le]; exact g1
  have q2 : (op.toList == [62]) = false := by rw [← tl_gt]; exact g2
  have q3 : (op.toList == [62, 61]) = false := by rw [← tl_ge]; exact g3
  have q4 : (op.toList == [61, 61]) = true := by rw [← tl_eq]; exact g4
  have hk : opsL.any (eqS op) = true := by unfold opsL; simp [g0, g1, g2, g3, g4]
  have HK := Lib.hid hk
  clear hk
  have hv := valid_iff u
  have hcv := fun W => validR_any u W
  generalize validB u = vb at *
  cases vb
  · have hd : boundR op u = (⟨[], []⟩, 1) := by rw [hdef.out, HK.out]; rfl
    have HD := Lib.hid hd
    clear hd hdef hv
    go_wp2_with fail
    refine (hcv _).mono ?_
    rintro e w' ⟨rfl, rfl⟩
    clear hWa
    have hb3 := BR.out
    have hfin := nm_store_nil hb3 HE.out (by omega)
    have z0 := hb3.cell0
    have z1 := hb3.cell1
    have z2 := hb3.frozen0
    have z3 := fun u => (hb3.set0 u).frozen0 1
    have z4 := fun u => (hb3.set0 u).cell1
    obtain ⟨n1, n2, n3, n4⟩ := hfin
    have N1 := Lib.hid n1
    have N2 := Lib.hid n2
    clear n1 n2 hb3
    go_wp2
    exact bodyPost_ret (v := .tuple #[.agg #[.slice none 0 0, .slice none 0 0], .int .i64 1]) (by simp [results, Try.results13, go_sem, n3, n4]) rfl ⟨_, by rw [HD.out], by rw [HD.out]; exact N1.out, N2.out⟩
  · have hq : boundSR op (lessN u) (mostN u) = minusR (mostN u) (lessN u) := by unfold boundSR; simp [g0, g1, g2, g3, g4]
    have HQ := Lib.hid hq
    clear hq
    have hd : boundR op u = (boundSR op (lessN u) (mostN u), 0) := by rw [hdef.out, HK.out]; rfl
    have HD := Lib.hid hd
    have hvu := hv.1 rfl
    clear hd hdef hv g0 g1 g2 g3 g4
    have b1 : -1000000000000 ≤ floorI (u - 1) ∧ floorI (u - 1) ≤ 1000000000000 := by unfold floorI; omega
    have b3 : -1000000000000 ≤ floorI u ∧ floorI u ≤ 1000000000000 := by unfold floorI; omega
    go_wp2_with fail
    refine (hcv _).mono ?_
    rintro e w' ⟨rfl, rfl⟩
    go_wp2_with fail
    refine (floorR_any _ _ (by omega) (by omega)).mono ?_
    rintro e w' ⟨rfl, rfl⟩
    clear hcv hWa
    have nm1 := nm_two Wa (-100000000000) (floorI (u - 1)) (-1000000000000000) (u - 1)
    have b6 := BlkN.new ((Wa.alloc (.cells #[.int .i64 (-100000000000), .int .i64 (floorI (u - 1))] 45)).alloc (.cells #[.int .i64 (-1000000000000000), .int .i64 (u - 1)] 45)) (.slice (some ⟨Wa.heap.size, 0, none⟩) 1 1) (.slice (some ⟨Wa.heap.size + 1, 0, none⟩) 1 1)
    have nm1 := nm1.ext ((Ext.refl _).alloc (.cells #[.slice (some ⟨Wa.heap.size, 0, none⟩) 1 1, .slice (some ⟨Wa.heap.size + 1, 0, none⟩) 1 1] 24))
    have hE6 := (((Ext.refl Wa).alloc (.cells #[.int .i64 (-100000000000), .int .i64 (floorI (u - 1))] 45)).alloc (.cells #[.int .i64 (-1000000000000000), .int .i64 (u - 1)] 45)).alloc (.cells #[.slice (some ⟨Wa.heap.size, 0, none⟩) 1 1, .slice (some ⟨Wa.heap.size + 1, 0, none⟩) 1 1] 24)
    rw [show ((Wa.alloc (.cells #[.int .i64 (-100000000000), .int .i64 (floorI (u - 1))] 45)).alloc (.cells #[.int .i64 (-1000000000000000), .int .i64 (u - 1)] 45)).heap.size = Wa.heap.size + 2 by simp] at b6
    generalize hWc : ((Wa.alloc (.cells #[.int .i64 (-100000000000), .int .i64 (floorI (u - 1))] 45)).alloc (.cells #[.int .i64 (-1000000000000000), .int .i64 (u - 1)] 45)).alloc (.cells #[.slice (some ⟨Wa.heap.size, 0, none⟩) 1 1, .slice (some ⟨Wa.heap.size + 1, 0, none⟩) 1 1] 24) = Wc at *
    rw [← less_nm] at nm1
    have NL := Lib.hid nm1
    have B6 := Lib.hid b6
    have HE6 := Lib.hid hE6
    clear nm1 b6 hE6
    go_wp2_with fail
    refine (floorR_any _ _ (by omega) (by omega)).mono ?_
    rintro e w' ⟨rfl, rfl⟩
    clear hWc
    have nm1 := nm_two Wc (-100000000000) (floorI u) (-1000000000000000) u
    have b7 := BlkN.new ((Wc.alloc (.cells #[.int .i64 (-100000000000), .int .i64 (floorI u)] 45)).alloc (.cells #[.int .i64 (-1000000000000000), .int .i64 u] 45)) (.slice (some ⟨Wc.heap.size, 0, none⟩) 1 1) (.slice (some ⟨Wc.heap.size + 1, 0, none⟩) 1 1)
    have nm1 := nm1.ext ((Ext.refl _).alloc (.cells #[.slice (some ⟨Wc.heap.size, 0, none⟩) 1 1, .slice (some ⟨Wc.heap.size + 1, 0, none⟩) 1 1] 24))
    have hE7 := (((Ext.refl Wc).alloc (.cells #[.int .i64 (-100000000000), .int .i64 (floorI u)] 45)).alloc (.cells #[.int .i64 (-1000000000000000), .int .i64 u] 45)).alloc (.cells #[.slice (some ⟨Wc.heap.size, 0, none⟩) 1 1, .slice (some ⟨Wc.heap.size + 1, 0, none⟩) 1 1] 24)
    rw [show ((Wc.alloc (.cells #[.int .i64 (-100000000000), .int .i64 (floorI u)] 45)).alloc (.cells #[.int .i64 (-1000000000000000), .int .i64 u] 45)).heap.size = Wc.heap.size + 2 by simp] at b7
    generalize hWd : ((Wc.alloc (.cells #[.int .i64 (-100000000000), .int .i64 (floorI u)] 45)).alloc (.cells #[.int .i64 (-1000000000000000), .int .i64 u] 45)).alloc (.cells #[.slice (some ⟨Wc.heap.size, 0, none⟩) 1 1, .slice (some ⟨Wc.heap.size + 1, 0, none⟩) 1 1] 24) = Wd at *
    rw [← most_nm] at nm1
    have NO := Lib.hid nm1
    have BR := Lib.hid (BR.out.ext (HE6.out.trans hE7))
    have B6 := Lib.hid (B6.out.ext hE7)
    have NL := Lib.hid (NL.out.ext hE7)
    have HE := Lib.hid ((HE.out.trans HE6.out).trans hE7)
    have b6a := B6.out.cell0
    have b6b := B6.out.cell1
    have b7a := b7.cell0
    have b7b := b7.cell1
    have sz1 : Hid (Sz 1 (lessN u)) := Lib.hid ⟨Nat.le_refl 1, Nat.le_refl 1⟩
    have sz2 : Hid (Sz 1 (mostN u)) := Lib.hid ⟨Nat.le_refl 1, Nat.le_refl 1⟩
    generalize lessN u = less at *
    generalize mostN u = most at *
    clear b7 hE7 nm1 HE6 B6 hvu b1 b3
    go_wp2_with fail
    refine (minusR_any _ _ most NO.out _ less NL.out (sz2.out.mono (by omega)) (sz1.out.mono (by omega))).mono ?_
    rintro e w3 ⟨r3, rfl, hm3, hE3⟩
    have hE9 : Ext Wd w3 := hE3
    have hb3 := BR.out.ext hE9
    obtain ⟨Ar, cr, Ar', cr', rfl, hr1, hr2⟩ := hm3
    have hfin := nm_store (d := minusR most less) (c := cr) (c' := cr') hb3 hr1 hr2 (HE.out.trans hE9) (by omega)
    have z0 := hb3.cell0
    have z1 := hb3.cell1
    have z2 := hb3.frozen0
    have z3 := fun u => (hb3.set0 u).frozen0 1
    have z4 := fun u => (hb3.set0 u).cell1
    obtain ⟨n1, n2, n3, n4⟩ := hfin
    have N1 := Lib.hid n1
    have N2 := Lib.hid n2
    clear n1 n2 hr1 hr2 hE9 hb3
    go_wp2
    exact bodyPost_ret (v := .tuple #[.agg #[.slice Ar (minusR most less).ints.length cr, .slice Ar' (minusR most less).fracs.length cr'], .int .i64 0]) (by simp [results, Try.results13, go_sem, n3, n4]) rfl ⟨_, by rw [HD.out], by rw [HD.out, HQ.out]; exact N1.out, N2.out⟩

set_option maxRecDepth 100000 in
set_option maxHeartbeats 1000000 in
theorem boundR_ne (w : World) (op : ByteArray) (u : Int) (hu : -9223372036854775808 ≤ u ∧ u ≤ 9223372036854775807) (g0 : eqS op opLt = false) (g1 : eqS op opLe = false) (g2 : eqS op opGt = false) (g3 : eqS op opGe = false) (g4 : eqS op opEq = false) (g5 : eqS op opNe = true) : Calls Try.prog 13 #[.string op, .int .i64 u] w fun e w' => ∃ r, e = .returned (.tuple #[r, .int .i64 (boundR op u).2]) ∧ NmAt w' r (boundR op u).1 ∧ Ext w w' := by
  have hdef : Hid (boundR op u = if !opsL.any (eqS op) then (⟨[], []⟩, 8) else if !validB u then (⟨[], []⟩, 1) else (boundSR op (lessN u) (mostN u), 0)) := Lib.hid rfl
  go_enter Try.func13, Try.ntmps13
  have br := BlkN.new w (.slice none 0 0) (.slice none 0 0)
  have hEW : Ext w (w.alloc (.cells #[.slice none 0 0, .slice none 0 0] 24)) := (Ext.refl w).alloc _
  generalize hWa : w.alloc (.cells #[.slice none 0 0, .slice none 0 0] 24) = Wa at *
  have BR := Lib.hid br
  have HE := Lib.hid hEW
  clear br hEW
  have q0 : (op.toList == [60]) = false := by rw [← tl_lt]; exact g0
  have q1 : (op.toList == [60, 61]) = false := by rw [← tl_le]; exact g1
  have q2 : (op.toList == [62]) = false := by rw [← tl_gt]; exact g2
  have q3 : (op.toList == [62, 61]) = false := by rw [← tl_ge]; exact g3
  have q4 : (op.toList == [61, 61]) = false := by rw [← tl_eq]; exact g4
  have q5 : (op.toList == [33, 61]) = true := by rw [← tl_ne]; exact g5
  have hk : opsL.any (eqS op) = true := by unfold opsL; simp [g0, g1, g2, g3, g4, g5]
  have HK := Lib.hid hk
  clear hk
  have hv := valid_iff u
  have hcv := fun W => validR_any u W
  generalize validB u = vb at *
  cases vb
  · have hd : boundR op u = (⟨[], []⟩, 1) := by rw [hdef.out, HK.out]; rfl
    have HD := Lib.hid hd
    clear hd hdef hv
    go_wp2_with fail
    refine (hcv _).mono ?_
    rintro e w' ⟨rfl, rfl⟩
    clear hWa
    have hb3 := BR.out
    have hfin := nm_store_nil hb3 HE.out (by omega)
    have z0 := hb3.cell0
    have z1 := hb3.cell1
    have z2 := hb3.frozen0
    have z3 := fun u => (hb3.set0 u).frozen0 1
    have z4 := fun u => (hb3.set0 u).cell1
    obtain ⟨n1, n2, n3, n4⟩ := hfin
    have N1 := Lib.hid n1
    have N2 := Lib.hid n2
    clear n1 n2 hb3
    go_wp2
    exact bodyPost_ret (v := .tuple #[.agg #[.slice none 0 0, .slice none 0 0], .int .i64 1]) (by simp [results, Try.results13, go_sem, n3, n4]) rfl ⟨_, by rw [HD.out], by rw [HD.out]; exact N1.out, N2.out⟩
  · have hq : boundSR op (lessN u) (mostN u) = notR (minusR (mostN u) (lessN u)) := by unfold boundSR; simp [g0, g1, g2, g3, g4]
    have HQ := Lib.hid hq
    clear hq
    have hd : boundR op u = (boundSR op (lessN u) (mostN u), 0) := by rw [hdef.out, HK.out]; rfl
    have HD := Lib.hid hd
    have hvu := hv.1 rfl
    clear hd hdef hv g0 g1 g2 g3 g4 g5
    have b1 : -1000000000000 ≤ floorI (u - 1) ∧ floorI (u - 1) ≤ 1000000000000 := by unfold floorI; omega
    have b3 : -1000000000000 ≤ floorI u ∧ floorI u ≤ 1000000000000 := by unfold floorI; omega
    go_wp2_with fail
    refine (hcv _).mono ?_
    rintro e w' ⟨rfl, rfl⟩
    go_wp2_with fail
    refine (floorR_any _ _ (by omega) (by omega)).mono ?_
    rintro e w' ⟨rfl, rfl⟩
    clear hcv hWa
    have nm1 := nm_two Wa (-100000000000) (floorI (u - 1)) (-1000000000000000) (u - 1)
    have b6 := BlkN.new ((Wa.alloc (.cells #[.int .i64 (-100000000000), .int .i64 (floorI (u - 1))] 45)).alloc (.cells #[.int .i64 (-1000000000000000), .int .i64 (u - 1)] 45)) (.slice (some ⟨Wa.heap.size, 0, none⟩) 1 1) (.slice (some ⟨Wa.heap.size + 1, 0, none⟩) 1 1)
    have nm1 := nm1.ext ((Ext.refl _).alloc (.cells #[.slice (some ⟨Wa.heap.size, 0, none⟩) 1 1, .slice (some ⟨Wa.heap.size + 1, 0, none⟩) 1 1] 24))
    have hE6 := (((Ext.refl Wa).alloc (.cells #[.int .i64 (-100000000000), .int .i64 (floorI (u - 1))] 45)).alloc (.cells #[.int .i64 (-1000000000000000), .int .i64 (u - 1)] 45)).alloc (.cells #[.slice (some ⟨Wa.heap.size, 0, none⟩) 1 1, .slice (some ⟨Wa.heap.size + 1, 0, none⟩) 1 1] 24)
    rw [show ((Wa.alloc (.cells #[.int .i64 (-100000000000), .int .i64 (floorI (u - 1))] 45)).alloc (.cells #[.int .i64 (-1000000000000000), .int .i64 (u - 1)] 45)).heap.size = Wa.heap.size + 2 by simp] at b6
    generalize hWc : ((Wa.alloc (.cells #[.int .i64 (-100000000000), .int .i64 (floorI (u - 1))] 45)).alloc (.cells #[.int .i64 (-1000000000000000), .int .i64 (u - 1)] 45)).alloc (.cells #[.slice (some ⟨Wa.heap.size, 0, none⟩) 1 1, .slice (some ⟨Wa.heap.size + 1, 0, none⟩) 1 1] 24) = Wc at *
    rw [← less_nm] at nm1
    have NL := Lib.hid nm1
    have B6 := Lib.hid b6
    have HE6 := Lib.hid hE6
    clear nm1 b6 hE6
    go_wp2_with fail
    refine (floorR_any _ _ (by omega) (by omega)).mono ?_
    rintro e w' ⟨rfl, rfl⟩
    clear hWc
    have nm1 := nm_two Wc (-100000000000) (floorI u) (-1000000000000000) u
    have b7 := BlkN.new ((Wc.alloc (.cells #[.int .i64 (-100000000000), .int .i64 (floorI u)] 45)).alloc (.cells #[.int .i64 (-1000000000000000), .int .i64 u] 45)) (.slice (some ⟨Wc.heap.size, 0, none⟩) 1 1) (.slice (some ⟨Wc.heap.size + 1, 0, none⟩) 1 1)
    have nm1 := nm1.ext ((Ext.refl _).alloc (.cells #[.slice (some ⟨Wc.heap.size, 0, none⟩) 1 1, .slice (some ⟨Wc.heap.size + 1, 0, none⟩) 1 1] 24))
    have hE7 := (((Ext.refl Wc).alloc (.cells #[.int .i64 (-100000000000), .int .i64 (floorI u)] 45)).alloc (.cells #[.int .i64 (-1000000000000000), .int .i64 u] 45)).alloc (.cells #[.slice (some ⟨Wc.heap.size, 0, none⟩) 1 1, .slice (some ⟨Wc.heap.size + 1, 0, none⟩) 1 1] 24)
    rw [show ((Wc.alloc (.cells #[.int .i64 (-100000000000), .int .i64 (floorI u)] 45)).alloc (.cells #[.int .i64 (-1000000000000000), .int .i64 u] 45)).heap.size = Wc.heap.size + 2 by simp] at b7
    generalize hWd : ((Wc.alloc (.cells #[.int .i64 (-100000000000), .int .i64 (floorI u)] 45)).alloc (.cells #[.int .i64 (-1000000000000000), .int .i64 u] 45)).alloc (.cells #[.slice (some ⟨Wc.heap.size, 0, none⟩) 1 1, .slice (some ⟨Wc.heap.size + 1, 0, none⟩) 1 1] 24) = Wd at *
    rw [← most_nm] at nm1
    have NO := Lib.hid nm1
    have BR := Lib.hid (BR.out.ext (HE6.out.trans hE7))
    have B6 := Lib.hid (B6.out.ext hE7)
    have NL := Lib.hid (NL.out.ext hE7)
    have HE := Lib.hid ((HE.out.trans HE6.out).trans hE7)
    have b6a := B6.out.cell0
    have b6b := B6.out.cell1
    have b7a := b7.cell0
    have b7b := b7.cell1
    have sz1 : Hid (Sz 1 (lessN u)) := Lib.hid ⟨Nat.le_refl 1, Nat.le_refl 1⟩
    have sz2 : Hid (Sz 1 (mostN u)) := Lib.hid ⟨Nat.le_refl 1, Nat.le_refl 1⟩
    generalize lessN u = less at *
    generalize mostN u = most at *
    clear b7 hE7 nm1 HE6 B6 hvu b1 b3
    go_wp2_with fail
    refine (minusR_any _ _ most NO.out _ less NL.out (sz2.out.mono (by omega)) (sz1.out.mono (by omega))).mono ?_
    rintro e w3 ⟨r3, rfl, hm3, hE3⟩
    have M3 := Lib.hid hm3
    have HE3 := Lib.hid hE3
    have s3 := Lib.hid (minusR_sz sz2.out sz1.out)
    clear hm3 hE3
    generalize minusR most less = m3 at *
    go_wp2_with fail
    refine (notR_any _ _ m3 M3.out (s3.out.mono (by omega))).mono ?_
    rintro e w4 ⟨r4, rfl, hm4, hE4⟩
    have hm3 := hm4
    have hE3 := HE3.out.trans hE4
    clear hE4 hm4
    obtain ⟨w3, rfl⟩ : ∃ w : World, w = w4 := ⟨_, rfl⟩
    have hE9 : Ext Wd w3 := hE3
    have hb3 := BR.out.ext hE9
    obtain ⟨Ar, cr, Ar', cr', rfl, hr1, hr2⟩ := hm3
    have hfin := nm_store (d := notR m3) (c := cr) (c' := cr') hb3 hr1 hr2 (HE.out.trans hE9) (by omega)
    have z0 := hb3.cell0
    have z1 := hb3.cell1
    have z2 := hb3.frozen0
    have z3 := fun u => (hb3.set0 u).frozen0 1
    have z4 := fun u => (hb3.set0 u).cell1
    obtain ⟨n1, n2, n3, n4⟩ := hfin
    have N1 := Lib.hid n1
    have N2 := Lib.hid n2
    clear n1 n2 hr1 hr2 hE9 hb3
    go_wp2
    exact bodyPost_ret (v := .tuple #[.agg #[.slice Ar (notR m3).ints.length cr, .slice Ar' (notR m3).fracs.length cr'], .int .i64 0]) (by simp [results, Try.results13, go_sem, n3, n4]) rfl ⟨_, by rw [HD.out], by rw [HD.out, HQ.out]; exact N1.out, N2.out⟩

set_option maxRecDepth 100000 in
set_option maxHeartbeats 1000000 in
theorem boundR_no (w : World) (op : ByteArray) (u : Int) (g0 : eqS op opLt = false) (g1 : eqS op opLe = false) (g2 : eqS op opGt = false) (g3 : eqS op opGe = false) (g4 : eqS op opEq = false) (g5 : eqS op opNe = false) : Calls Try.prog 13 #[.string op, .int .i64 u] w fun e w' => ∃ r, e = .returned (.tuple #[r, .int .i64 (boundR op u).2]) ∧ NmAt w' r (boundR op u).1 ∧ Ext w w' := by
  have hdef : Hid (boundR op u = if !opsL.any (eqS op) then (⟨[], []⟩, 8) else if !validB u then (⟨[], []⟩, 1) else (boundSR op (lessN u) (mostN u), 0)) := Lib.hid rfl
  go_enter Try.func13, Try.ntmps13
  have br := BlkN.new w (.slice none 0 0) (.slice none 0 0)
  have hEW : Ext w (w.alloc (.cells #[.slice none 0 0, .slice none 0 0] 24)) := (Ext.refl w).alloc _
  generalize hWa : w.alloc (.cells #[.slice none 0 0, .slice none 0 0] 24) = Wa at *
  have BR := Lib.hid br
  have HE := Lib.hid hEW
  clear br hEW
  have q0 : (op.toList == [60]) = false := by rw [← tl_lt]; exact g0
  have q1 : (op.toList == [60, 61]) = false := by rw [← tl_le]; exact g1
  have q2 : (op.toList == [62]) = false := by rw [← tl_gt]; exact g2
  have q3 : (op.toList == [62, 61]) = false := by rw [← tl_ge]; exact g3
  have q4 : (op.toList == [61, 61]) = false := by rw [← tl_eq]; exact g4
  have q5 : (op.toList == [33, 61]) = false := by rw [← tl_ne]; exact g5
  have hk : opsL.any (eqS op) = false := by unfold opsL; simp [g0, g1, g2, g3, g4, g5]
  have hd : boundR op u = (⟨[], []⟩, 8) := by rw [hdef.out, hk]; rfl
  have HD := Lib.hid hd
  clear hd hdef hk
  have hb3 := BR.out
  have hfin := nm_store_nil hb3 HE.out (by omega)
  have z0 := hb3.cell0
  have z1 := hb3.cell1
  have z2 := hb3.frozen0
  have z3 := fun u => (hb3.set0 u).frozen0 1
  have z4 := fun u => (hb3.set0 u).cell1
  obtain ⟨n1, n2, n3, n4⟩ := hfin
  have N1 := Lib.hid n1
  have N2 := Lib.hid n2
  clear n1 n2 hb3
  go_wp2
  exact bodyPost_ret (v := .tuple #[.agg #[.slice none 0 0, .slice none 0 0], .int .i64 8]) (by simp [results, Try.results13, go_sem, n3, n4]) rfl ⟨_, by rw [HD.out], by rw [HD.out]; exact N1.out, N2.out⟩

theorem boundR_any (w : World) (op : ByteArray) (u : Int) (hu : -9223372036854775808 ≤ u ∧ u ≤ 9223372036854775807) : Calls Try.prog 13 #[.string op, .int .i64 u] w fun e w' => ∃ r, e = .returned (.tuple #[r, .int .i64 (boundR op u).2]) ∧ NmAt w' r (boundR op u).1 ∧ Ext w w' := by
  cases g0 : eqS op opLt
  rotate_left
  · exact boundR_lt w op u hu g0
  cases g1 : eqS op opLe
  rotate_left
  · exact boundR_le w op u hu g0 g1
  cases g2 : eqS op opGt
  rotate_left
  · exact boundR_gt w op u hu g0 g1 g2
  cases g3 : eqS op opGe
  rotate_left
  · exact boundR_ge w op u hu g0 g1 g2 g3
  cases g4 : eqS op opEq
  rotate_left
  · exact boundR_eq w op u hu g0 g1 g2 g3 g4
  cases g5 : eqS op opNe
  rotate_left
  · exact boundR_ne w op u hu g0 g1 g2 g3 g4 g5
  exact boundR_no w op u g0 g1 g2 g3 g4 g5

end Go.Proofs.Ytaianhhmmacblaa
