import Derived.Test.YtaianhhmmacblaaStrIn
/-
  The program's Bound.
-/
namespace Go.Proofs.Ytaianhhmmacblaa
open Go.RowKit

def opsL : List ByteArray := [opLt, opLe, opGt, opGe, opEq, opNe]
def lessN (u : Int) : Nm := ⟨[(-100000000000, floorI (u - 1))], [(-1000000000000000, u - 1)]⟩
def oneN (u : Int) : Nm := ⟨[(-floorI (-u), floorI u)], [(u, u)]⟩
def boundS (op : ByteArray) (less one : Nm) : Nm :=
  if eqS op opLt then less else if eqS op opLe then orR less one else if eqS op opGt then notP (orR less one) else if eqS op opGe then notP less else if eqS op opEq then one else notP one
def boundP (op : ByteArray) (u : Int) : Nm × Int :=
  if !opsL.any (eqS op) then (⟨[], []⟩, 8) else if !validB u then (⟨[], []⟩, 1) else (boundS op (makeR (lessN u)) (makeR (oneN u)), 0)

theorem tl_lt : opLt.toList = [60] := by simp [opLt]
theorem tl_le : opLe.toList = [60, 61] := by simp [opLe]
theorem tl_gt : opGt.toList = [62] := by simp [opGt]
theorem tl_ge : opGe.toList = [62, 61] := by simp [opGe]
theorem tl_eq : opEq.toList = [61, 61] := by simp [opEq]
theorem tl_ne : opNe.toList = [33, 61] := by simp [opNe]
theorem nm_store_nil {w0 w : World} {g : Nat} (hb : BlkN w g (.slice none 0 0) (.slice none 0 0)) (hE : Ext w0 w) (hg : w0.heap.size ≤ g) :
    NmAt ((w.setCell ⟨g, 0, none⟩ (.slice none 0 0)).setCell ⟨g, 1, none⟩ (.slice none 0 0)) (.agg #[.slice none 0 0, .slice none 0 0]) ⟨[], []⟩ ∧
    Ext w0 ((w.setCell ⟨g, 0, none⟩ (.slice none 0 0)).setCell ⟨g, 1, none⟩ (.slice none 0 0)) ∧
    ((w.setCell ⟨g, 0, none⟩ (.slice none 0 0)).setCell ⟨g, 1, none⟩ (.slice none 0 0)).cell? ⟨g, 0, none⟩ = some (.slice none 0 0) ∧
    ((w.setCell ⟨g, 0, none⟩ (.slice none 0 0)).setCell ⟨g, 1, none⟩ (.slice none 0 0)).cell? ⟨g, 1, none⟩ = some (.slice none 0 0) :=
  nm_store (c := 0) (c' := 0) (d := ⟨[], []⟩) hb (SlAt.nil _ _ none) (SlAt.nil _ _ none) hE hg
theorem nm_two (w : World) (a b c d : Int) : NmAt ((w.alloc (.cells #[.int .i64 a, .int .i64 b] 45)).alloc (.cells #[.int .i64 c, .int .i64 d] 45)) (.agg #[.slice (some ⟨w.heap.size, 0, none⟩) 1 1, .slice (some ⟨w.heap.size + 1, 0, none⟩) 1 1]) ⟨[(a, b)], [(c, d)]⟩ := by
  have h1 := (Blk2.new w (.int .i64 a) (.int .i64 b)).alloc (.cells #[.int .i64 c, .int .i64 d] 45)
  have h2 := Blk2.new (w.alloc (.cells #[.int .i64 a, .int .i64 b] 45)) (.int .i64 c) (.int .i64 d)
  have e : (w.alloc (.cells #[.int .i64 a, .int .i64 b] 45)).heap.size = w.heap.size + 1 := by simp
  rw [e] at h2
  exact ⟨some ⟨w.heap.size, 0, none⟩, 1, some ⟨w.heap.size + 1, 0, none⟩, 1, rfl, sl_one h1 (by simp; omega), sl_one h2 (by simp)⟩
theorem inr_one {a b : Int} (h1 : -9223372036854775808 ≤ a) (h2 : a ≤ 9223372036854775807) (h3 : -9223372036854775808 ≤ b) (h4 : b ≤ 9223372036854775807) : InR [(a, b)] := fun s hs => by
  simp at hs; subst hs; exact ⟨h1, h2, h3, h4⟩

set_option maxRecDepth 100000 in
set_option maxHeartbeats 2000000 in
theorem boundP_any (w : World) (op : ByteArray) (u : Int) (hu : -9223372036854775808 ≤ u ∧ u ≤ 9223372036854775807) :
    Calls Try.prog 12 #[.string op, .int .i64 u] w fun e w' => ∃ r, e = .returned (.tuple #[r, .int .i64 (boundP op u).2]) ∧ NmAt w' r (boundP op u).1 ∧ Ext w w' := by
  have hdef : Hid (boundP op u = if !opsL.any (eqS op) then (⟨[], []⟩, 8) else if !validB u then (⟨[], []⟩, 1) else (boundS op (makeR (lessN u)) (makeR (oneN u)), 0)) := Lib.hid rfl
  have HU := Lib.hid hu
  go_enter Try.func12, Try.ntmps12
  go_wp2_with fail
  have hh : ((w.alloc (.cells #[.slice none 0 0, .slice none 0 0] 24)).alloc (.cells #[.string ⟨#[60]⟩, .string ⟨#[60, 61]⟩, .string ⟨#[62]⟩, .string ⟨#[62, 61]⟩, .string ⟨#[61, 61]⟩, .string ⟨#[33, 61]⟩] 9)).heap[w.heap.size + 1]? = some (.cells #[.string ⟨#[60]⟩, .string ⟨#[60, 61]⟩, .string ⟨#[62]⟩, .string ⟨#[62, 61]⟩, .string ⟨#[61, 61]⟩, .string ⟨#[33, 61]⟩] 9 (0, 0)) := by
    simpa using heap_alloc_new (w.alloc (.cells #[.slice none 0 0, .slice none 0 0] 24)) (.cells #[.string ⟨#[60]⟩, .string ⟨#[60, 61]⟩, .string ⟨#[62]⟩, .string ⟨#[62, 61]⟩, .string ⟨#[61, 61]⟩, .string ⟨#[33, 61]⟩] 9)
  have HH := Lib.hid hh
  clear hh
  refine (containsS_any _ (w.heap.size + 1) opsL 6 op ?_ (by decide)).mono ?_
  · intro k s hk
    have hh := HH.out
    unfold World.cell?
    match k, hk with
    | 0, hk => injection hk with hk; subst hk; rw [hh]; rfl
    | 1, hk => injection hk with hk; subst hk; rw [hh]; rfl
    | 2, hk => injection hk with hk; subst hk; rw [hh]; rfl
    | 3, hk => injection hk with hk; subst hk; rw [hh]; rfl
    | 4, hk => injection hk with hk; subst hk; rw [hh]; rfl
    | 5, hk => injection hk with hk; subst hk; rw [hh]; rfl
  clear HH
  have br : BlkN ((w.alloc (.cells #[.slice none 0 0, .slice none 0 0] 24)).alloc (.cells #[.string ⟨#[60]⟩, .string ⟨#[60, 61]⟩, .string ⟨#[62]⟩, .string ⟨#[62, 61]⟩, .string ⟨#[61, 61]⟩, .string ⟨#[33, 61]⟩] 9)) w.heap.size (.slice none 0 0) (.slice none 0 0) := (BlkN.new w (.slice none 0 0) (.slice none 0 0)).alloc _
  have hEW : Ext w ((w.alloc (.cells #[.slice none 0 0, .slice none 0 0] 24)).alloc (.cells #[.string ⟨#[60]⟩, .string ⟨#[60, 61]⟩, .string ⟨#[62]⟩, .string ⟨#[62, 61]⟩, .string ⟨#[61, 61]⟩, .string ⟨#[33, 61]⟩] 9)) := ((Ext.refl w).alloc _).alloc _
  generalize ((w.alloc (.cells #[.slice none 0 0, .slice none 0 0] 24)).alloc (.cells #[.string ⟨#[60]⟩, .string ⟨#[60, 61]⟩, .string ⟨#[62]⟩, .string ⟨#[62, 61]⟩, .string ⟨#[61, 61]⟩, .string ⟨#[33, 61]⟩] 9)) = Wa at *
  rintro e w' ⟨⟨b, rfl, hb⟩, rfl⟩
  have HB := Lib.hid hb
  have BR := Lib.hid br
  have HE := Lib.hid hEW
  clear hb br hEW
  cases b
  · have hd : boundP op u = (⟨[], []⟩, 8) := by rw [hdef.out, ← HB.out]; rfl
    have HD := Lib.hid hd
    clear hd hdef
    have hE9 := Ext.refl Wa
    have hb3 := BR.out
    have hfin := nm_store_nil hb3 (HE.out.trans hE9) (by omega)
    have z0 := hb3.cell0
    have z1 := hb3.cell1
    have z2 := hb3.frozen0
    have z3 := fun u => (hb3.set0 u).frozen0 1
    have z4 := fun u => (hb3.set0 u).cell1
    obtain ⟨n1, n2, n3, n4⟩ := hfin
    have N1 := Lib.hid n1
    have N2 := Lib.hid n2
    clear n1 n2 hE9 hb3
    go_wp2
    exact bodyPost_ret (v := .tuple #[.agg #[.slice none 0 0, .slice none 0 0], .int .i64 8]) (by simp [results, Try.results12, go_sem, n3, n4]) rfl ⟨_, by rw [HD.out], by rw [HD.out]; exact N1.out, N2.out⟩
  · have hd : boundP op u = if !validB u then (⟨[], []⟩, 1) else (boundS op (makeR (lessN u)) (makeR (oneN u)), 0) := by rw [hdef.out, ← HB.out]; rfl
    have hv := valid_iff u
    have hcv := fun W => validP_any u W
    generalize validB u = vb at *
    have HD := Lib.hid hd
    have HV := Lib.hid hv
    clear hd hdef hv
    cases vb
    · have hd : boundP op u = (⟨[], []⟩, 1) := by rw [HD.out]; rfl
      have HD := Lib.hid hd
      clear hd
      go_wp2_with fail
      refine (hcv _).mono ?_
      rintro e w' ⟨rfl, rfl⟩
      have hE9 := Ext.refl Wa
      have hb3 := BR.out
      have hfin := nm_store_nil hb3 (HE.out.trans hE9) (by omega)
      have z0 := hb3.cell0
      have z1 := hb3.cell1
      have z2 := hb3.frozen0
      have z3 := fun u => (hb3.set0 u).frozen0 1
      have z4 := fun u => (hb3.set0 u).cell1
      obtain ⟨n1, n2, n3, n4⟩ := hfin
      have N1 := Lib.hid n1
      have N2 := Lib.hid n2
      clear n1 n2 hE9 hb3
      go_wp2
      exact bodyPost_ret (v := .tuple #[.agg #[.slice none 0 0, .slice none 0 0], .int .i64 1]) (by simp [results, Try.results12, go_sem, n3, n4]) rfl ⟨_, by rw [HD.out], by rw [HD.out]; exact N1.out, N2.out⟩
    · have hd : boundP op u = (boundS op (makeR (lessN u)) (makeR (oneN u)), 0) := by rw [HD.out]; rfl
      have hvu := HV.out.1 rfl
      clear HD
      have HD := Lib.hid hd
      clear hd
      have hl1 : Hid (lessN u = ⟨[(-100000000000, floorI (u - 1))], [(-1000000000000000, u - 1)]⟩) := Lib.hid rfl
      have hl2 : Hid (oneN u = ⟨[(-floorI (-u), floorI u)], [(u, u)]⟩) := Lib.hid rfl
      have b1 : -1000000000000 ≤ floorI (u - 1) ∧ floorI (u - 1) ≤ 1000000000000 := by unfold floorI; omega
      have b2 : -1000000000000 ≤ floorI (-u) ∧ floorI (-u) ≤ 1000000000000 := by unfold floorI; omega
      have b3 : -1000000000000 ≤ floorI u ∧ floorI u ≤ 1000000000000 := by unfold floorI; omega
      go_wp2_with fail
      refine (hcv _).mono ?_
      rintro e w' ⟨rfl, rfl⟩
      go_wp2_with fail
      refine (floorP_any _ _ (by omega) (by omega)).mono ?_
      rintro e w' ⟨rfl, rfl⟩
      go_wp2_with fail
      have hE2 : Ext Wa ((Wa.alloc (.cells #[.int .i64 (-100000000000), .int .i64 (floorI (u - 1))] 45)).alloc (.cells #[.int .i64 (-1000000000000000), .int .i64 (u - 1)] 45)) := ((Ext.refl Wa).alloc _).alloc _
      have HE2 := Lib.hid hE2
      clear hE2
      refine (makeP_any _ _ (lessN u) (by rw [hl1.out]; exact nm_two Wa _ _ _ _) ⟨by rw [hl1.out]; show 1 ≤ 1000000; decide, by rw [hl1.out]; show 1 ≤ 1000000; decide⟩ (by rw [hl1.out]; exact inr_one (by omega) (by omega) (by omega) (by omega))).mono ?_
      rintro e w1 ⟨r1, rfl, hm1, hE1⟩
      have sz1 := Lib.hid (makeR_sz (n := 1) (d := lessN u) ⟨by rw [hl1.out]; exact Nat.le_refl 1, by rw [hl1.out]; exact Nat.le_refl 1⟩)
      have ir1 := Lib.hid (InR.of_bdd (makeR_bddF (lessN u)))
      generalize makeR (lessN u) = less at *
      obtain ⟨A8, c8, B8, e8, rfl, i8, f8⟩ := hm1
      have hE1 := HE2.out.trans hE1
      have b6 := BlkN.new w1 (.slice A8 less.ints.length c8) (.slice B8 less.fracs.length e8)
      have hE1 := hE1.alloc (.cells #[.slice A8 less.ints.length c8, .slice B8 less.fracs.length e8] 24)
      have i8 := i8.ext ((Ext.refl w1).alloc (.cells #[.slice A8 less.ints.length c8, .slice B8 less.fracs.length e8] 24))
      have f8 := f8.ext ((Ext.refl w1).alloc (.cells #[.slice A8 less.ints.length c8, .slice B8 less.fracs.length e8] 24))
      clear HE2
      go_wp2_with fail
      generalize (w1.alloc (.cells #[.slice A8 less.ints.length c8, .slice B8 less.fracs.length e8] 24)) = Wc at *
      have hnm : NmAt Wc (.agg #[.slice A8 less.ints.length c8, .slice B8 less.fracs.length e8]) less := ⟨A8, c8, B8, e8, rfl, i8, f8⟩
      have NL := Lib.hid hnm
      have B6 := Lib.hid b6
      have HEc := Lib.hid hE1
      clear hnm b6 hE1 i8 f8
      refine (floorP_any _ _ (by omega) (by omega)).mono ?_
      rintro e w' ⟨rfl, rfl⟩
      go_wp2_with fail
      refine (floorP_any _ _ (by omega) (by omega)).mono ?_
      rintro e w' ⟨rfl, rfl⟩
      go_wp2_with fail
      have hE2 : Ext Wc ((Wc.alloc (.cells #[.int .i64 (-floorI (-u)), .int .i64 (floorI u)] 45)).alloc (.cells #[.int .i64 u, .int .i64 u] 45)) := ((Ext.refl Wc).alloc _).alloc _
      have HE2 := Lib.hid hE2
      clear hE2
      refine (makeP_any _ _ (oneN u) (by rw [hl2.out]; exact nm_two Wc _ _ _ _) ⟨by rw [hl2.out]; show 1 ≤ 1000000; decide, by rw [hl2.out]; show 1 ≤ 1000000; decide⟩ (by rw [hl2.out]; exact inr_one (by omega) (by omega) (by omega) (by omega))).mono ?_
      rintro e w2 ⟨r2, rfl, hm2, hE2⟩
      have sz2 := Lib.hid (makeR_sz (n := 1) (d := oneN u) ⟨by rw [hl2.out]; exact Nat.le_refl 1, by rw [hl2.out]; exact Nat.le_refl 1⟩)
      have ir2 := Lib.hid (InR.of_bdd (makeR_bddF (oneN u)))
      generalize makeR (oneN u) = one at *
      obtain ⟨A9, c9, B9, e9, rfl, i9, f9⟩ := hm2
      have hE2 := HE2.out.trans hE2
      have b7 := BlkN.new w2 (.slice A9 one.ints.length c9) (.slice B9 one.fracs.length e9)
      have hE2 := hE2.alloc (.cells #[.slice A9 one.ints.length c9, .slice B9 one.fracs.length e9] 24)
      have i9 := i9.ext ((Ext.refl w2).alloc (.cells #[.slice A9 one.ints.length c9, .slice B9 one.fracs.length e9] 24))
      have f9 := f9.ext ((Ext.refl w2).alloc (.cells #[.slice A9 one.ints.length c9, .slice B9 one.fracs.length e9] 24))
      clear HE2 hl1 hl2 hcv hvu b1 b2 b3
      have BR := Lib.hid (BR.out.ext (HEc.out.trans hE2))
      have B6 := Lib.hid (B6.out.ext hE2)
      have NL := Lib.hid (NL.out.ext hE2)
      have HE := Lib.hid ((HE.out.trans HEc.out).trans hE2)
      have b6a := B6.out.cell0
      have b6b := B6.out.cell1
      have b7a := b7.cell0
      have b7b := b7.cell1
      have hbd : Hid (boundS op less one = if eqS op opLt then less else if eqS op opLe then orR less one else if eqS op opGt then notP (orR less one) else if eqS op opGe then notP less else if eqS op opEq then one else notP one) := Lib.hid rfl
      generalize hWd : (w2.alloc (.cells #[.slice A9 one.ints.length c9, .slice B9 one.fracs.length e9] 24)) = Wd at *
      have NO := Lib.hid (show NmAt Wd (.agg #[.slice A9 one.ints.length c9, .slice B9 one.fracs.length e9]) one from ⟨A9, c9, B9, e9, rfl, i9, f9⟩)
      clear b7 hE2 i9 f9
      cases g0 : eqS op opLt
      rotate_left
      · have q0 : (op.toList == [60]) = true := by rw [← tl_lt]; exact g0
        have hq : boundS op less one = less := by rw [hbd.out]; simp [g0]
        have HQ := Lib.hid hq
        clear hq hbd
        have hE9 : Ext Wd Wd := Ext.refl Wd
        have hb3 := BR.out.ext hE9
        have hx0 := NL.out
        obtain ⟨Ax, cx, Bx, ex, hxx, hr1, hr2⟩ := hx0
        injection hxx with hxx
        injection hxx with hxx
        injection hxx with hy1 hy2
        injection hy1 with hy1 _ hy3
        injection hy2 with hy2 _
        injection hy2 with hy2 _ hy4
        subst hy1 hy2 hy3 hy4
        have hfin := nm_store (d := less) (c := c8) (c' := e8) hb3 hr1 hr2 (HE.out.trans hE9) (by omega)
        have z0 := hb3.cell0
        have z1 := hb3.cell1
        have z2 := hb3.frozen0
        have z3 := fun u => (hb3.set0 u).frozen0 1
        have z4 := fun u => (hb3.set0 u).cell1
        obtain ⟨n1, n2, n3, n4⟩ := hfin
        have N1 := Lib.hid n1
        have N2 := Lib.hid n2
        clear n1 n2 hr1 hr2 hE9 hb3
        go_wp2
        exact bodyPost_ret (v := .tuple #[.agg #[.slice A8 (less).ints.length c8, .slice B8 (less).fracs.length e8], .int .i64 0]) (by simp [results, Try.results12, go_sem, n3, n4]) rfl ⟨_, by rw [HD.out], by rw [HD.out, HQ.out]; exact N1.out, N2.out⟩
      · have q0 : (op.toList == [60]) = false := by rw [← tl_lt]; exact g0
        cases g1 : eqS op opLe
        rotate_left
        · have q1 : (op.toList == [60, 61]) = true := by rw [← tl_le]; exact g1
          have hq : boundS op less one = orR less one := by rw [hbd.out]; simp [g0, g1]
          have HQ := Lib.hid hq
          clear hq hbd
          go_wp2_with fail
          refine (orP_any _ _ less NL.out _ one NO.out (sz1.out.mono (by omega)) (sz2.out.mono (by omega)) ir1.out ir2.out).mono ?_
          rintro e w3 ⟨r3, rfl, hm3, hE3⟩
          have hE9 : Ext Wd w3 := hE3
          have hb3 := BR.out.ext hE9
          obtain ⟨Ar, cr, Ar', cr', rfl, hr1, hr2⟩ := hm3
          have hfin := nm_store (d := orR less one) (c := cr) (c' := cr') hb3 hr1 hr2 (HE.out.trans hE9) (by omega)
          have z0 := hb3.cell0
          have z1 := hb3.cell1
          have z2 := hb3.frozen0
          have z3 := fun u => (hb3.set0 u).frozen0 1
          have z4 := fun u => (hb3.set0 u).cell1
          obtain ⟨n1, n2, n3, n4⟩ := hfin
          have N1 := Lib.hid n1
          have N2 := Lib.hid n2
          clear n1 n2 hr1 hr2 hE9 hb3
          go_wp2
          exact bodyPost_ret (v := .tuple #[.agg #[.slice Ar (orR less one).ints.length cr, .slice Ar' (orR less one).fracs.length cr'], .int .i64 0]) (by simp [results, Try.results12, go_sem, n3, n4]) rfl ⟨_, by rw [HD.out], by rw [HD.out, HQ.out]; exact N1.out, N2.out⟩
        · have q1 : (op.toList == [60, 61]) = false := by rw [← tl_le]; exact g1
          cases g2 : eqS op opGt
          rotate_left
          · have q2 : (op.toList == [62]) = true := by rw [← tl_gt]; exact g2
            have hq : boundS op less one = notP (orR less one) := by rw [hbd.out]; simp [g0, g1, g2]
            have HQ := Lib.hid hq
            clear hq hbd
            go_wp2_with fail
            refine (orP_any _ _ less NL.out _ one NO.out (sz1.out.mono (by omega)) (sz2.out.mono (by omega)) ir1.out ir2.out).mono ?_
            rintro e w3 ⟨r3, rfl, hm3, hE3⟩
            have M3 := Lib.hid hm3
            have HE3 := Lib.hid hE3
            have s3 := Lib.hid (orR_sz sz1.out sz2.out)
            have i3 := Lib.hid (InR.of_bdd (makeR_bddF _) : InR (orR less one).fracs)
            clear hm3 hE3
            go_wp2_with fail
            refine (notP_any _ _ (orR less one) M3.out (s3.out.mono (by omega)) i3.out).mono ?_
            rintro e w4 ⟨r4, rfl, hm4, hE4⟩
            have hE4 := HE3.out.trans hE4
            have hE9 : Ext Wd w4 := hE4
            have hb3 := BR.out.ext hE9
            obtain ⟨Ar, cr, Ar', cr', rfl, hr1, hr2⟩ := hm4
            have hfin := nm_store (d := notP (orR less one)) (c := cr) (c' := cr') hb3 hr1 hr2 (HE.out.trans hE9) (by omega)
            have z0 := hb3.cell0
            have z1 := hb3.cell1
            have z2 := hb3.frozen0
            have z3 := fun u => (hb3.set0 u).frozen0 1
            have z4 := fun u => (hb3.set0 u).cell1
            obtain ⟨n1, n2, n3, n4⟩ := hfin
            have N1 := Lib.hid n1
            have N2 := Lib.hid n2
            clear n1 n2 hr1 hr2 hE9 hb3
            go_wp2
            exact bodyPost_ret (v := .tuple #[.agg #[.slice Ar (notP (orR less one)).ints.length cr, .slice Ar' (notP (orR less one)).fracs.length cr'], .int .i64 0]) (by simp [results, Try.results12, go_sem, n3, n4]) rfl ⟨_, by rw [HD.out], by rw [HD.out, HQ.out]; exact N1.out, N2.out⟩
          · have q2 : (op.toList == [62]) = false := by rw [← tl_gt]; exact g2
            cases g3 : eqS op opGe
            rotate_left
            · have q3 : (op.toList == [62, 61]) = true := by rw [← tl_ge]; exact g3
              have hq : boundS op less one = notP less := by rw [hbd.out]; simp [g0, g1, g2, g3]
              have HQ := Lib.hid hq
              clear hq hbd
              go_wp2_with fail
              refine (notP_any _ _ less NL.out (sz1.out.mono (by omega)) ir1.out).mono ?_
              rintro e w3 ⟨r3, rfl, hm3, hE3⟩
              have hE9 : Ext Wd w3 := hE3
              have hb3 := BR.out.ext hE9
              obtain ⟨Ar, cr, Ar', cr', rfl, hr1, hr2⟩ := hm3
              have hfin := nm_store (d := notP less) (c := cr) (c' := cr') hb3 hr1 hr2 (HE.out.trans hE9) (by omega)
              have z0 := hb3.cell0
              have z1 := hb3.cell1
              have z2 := hb3.frozen0
              have z3 := fun u => (hb3.set0 u).frozen0 1
              have z4 := fun u => (hb3.set0 u).cell1
              obtain ⟨n1, n2, n3, n4⟩ := hfin
              have N1 := Lib.hid n1
              have N2 := Lib.hid n2
              clear n1 n2 hr1 hr2 hE9 hb3
              go_wp2
              exact bodyPost_ret (v := .tuple #[.agg #[.slice Ar (notP less).ints.length cr, .slice Ar' (notP less).fracs.length cr'], .int .i64 0]) (by simp [results, Try.results12, go_sem, n3, n4]) rfl ⟨_, by rw [HD.out], by rw [HD.out, HQ.out]; exact N1.out, N2.out⟩
            · have q3 : (op.toList == [62, 61]) = false := by rw [← tl_ge]; exact g3
              cases g4 : eqS op opEq
              rotate_left
              · have q4 : (op.toList == [61, 61]) = true := by rw [← tl_eq]; exact g4
                have hq : boundS op less one = one := by rw [hbd.out]; simp [g0, g1, g2, g3, g4]
                have HQ := Lib.hid hq
                clear hq hbd
                have hE9 : Ext Wd Wd := Ext.refl Wd
                have hb3 := BR.out.ext hE9
                have hx0 := NO.out
                obtain ⟨Ax, cx, Bx, ex, hxx, hr1, hr2⟩ := hx0
                injection hxx with hxx
                injection hxx with hxx
                injection hxx with hy1 hy2
                injection hy1 with hy1 _ hy3
                injection hy2 with hy2 _
                injection hy2 with hy2 _ hy4
                subst hy1 hy2 hy3 hy4
                have hfin := nm_store (d := one) (c := c9) (c' := e9) hb3 hr1 hr2 (HE.out.trans hE9) (by omega)
                have z0 := hb3.cell0
                have z1 := hb3.cell1
                have z2 := hb3.frozen0
                have z3 := fun u => (hb3.set0 u).frozen0 1
                have z4 := fun u => (hb3.set0 u).cell1
                obtain ⟨n1, n2, n3, n4⟩ := hfin
                have N1 := Lib.hid n1
                have N2 := Lib.hid n2
                clear n1 n2 hr1 hr2 hE9 hb3
                go_wp2
                exact bodyPost_ret (v := .tuple #[.agg #[.slice A9 (one).ints.length c9, .slice B9 (one).fracs.length e9], .int .i64 0]) (by simp [results, Try.results12, go_sem, n3, n4]) rfl ⟨_, by rw [HD.out], by rw [HD.out, HQ.out]; exact N1.out, N2.out⟩
              · have q4 : (op.toList == [61, 61]) = false := by rw [← tl_eq]; exact g4
                have hq : boundS op less one = notP one := by rw [hbd.out]; simp [g0, g1, g2, g3, g4]
                have HQ := Lib.hid hq
                clear hq hbd
                go_wp2_with fail
                refine (notP_any _ _ one NO.out (sz2.out.mono (by omega)) ir2.out).mono ?_
                rintro e w3 ⟨r3, rfl, hm3, hE3⟩
                have hE9 : Ext Wd w3 := hE3
                have hb3 := BR.out.ext hE9
                obtain ⟨Ar, cr, Ar', cr', rfl, hr1, hr2⟩ := hm3
                have hfin := nm_store (d := notP one) (c := cr) (c' := cr') hb3 hr1 hr2 (HE.out.trans hE9) (by omega)
                have z0 := hb3.cell0
                have z1 := hb3.cell1
                have z2 := hb3.frozen0
                have z3 := fun u => (hb3.set0 u).frozen0 1
                have z4 := fun u => (hb3.set0 u).cell1
                obtain ⟨n1, n2, n3, n4⟩ := hfin
                have N1 := Lib.hid n1
                have N2 := Lib.hid n2
                clear n1 n2 hr1 hr2 hE9 hb3
                go_wp2
                exact bodyPost_ret (v := .tuple #[.agg #[.slice Ar (notP one).ints.length cr, .slice Ar' (notP one).fracs.length cr'], .int .i64 0]) (by simp [results, Try.results12, go_sem, n3, n4]) rfl ⟨_, by rw [HD.out], by rw [HD.out, HQ.out]; exact N1.out, N2.out⟩
end Go.Proofs.Ytaianhhmmacblaa
