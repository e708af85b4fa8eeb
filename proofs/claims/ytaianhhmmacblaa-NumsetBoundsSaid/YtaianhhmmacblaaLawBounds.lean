import Derived.Test.YtaianhhmmacblaaAlive
import Derived.Test.YtaianhhmmacblaaOpen
import Derived.Test.YtaianhhmmacblaaBoundR
/-
  The law NumsetBounds.
-/
namespace Go.Proofs.Ytaianhhmmacblaa
open Go Go.RowKit

theorem boundR_can (op : ByteArray) (u : Int) : CanN (boundR op u).1 := by
  unfold boundR
  split
  · exact nil_can
  · split
    · exact nil_can
    · exact boundSR_can _ _ _
theorem boundSR_sz (op : ByteArray) (u : Int) : Sz 20 (boundSR op (lessN u) (mostN u)) := by
  have h1 : Sz 1 (lessN u) := ⟨Nat.le_refl 1, Nat.le_refl 1⟩
  have h2 : Sz 1 (mostN u) := ⟨Nat.le_refl 1, Nat.le_refl 1⟩
  unfold boundSR
  by_cases g1 : eqS op opLt = true
  · rw [if_pos g1]; exact (makeR_sz h1).mono (by decide)
  · rw [if_neg g1]
    by_cases g2 : eqS op opLe = true
    · rw [if_pos g2]; exact (makeR_sz h2).mono (by decide)
    · rw [if_neg g2]
      by_cases g3 : eqS op opGt = true
      · rw [if_pos g3]; exact (notR_sz h2).mono (by decide)
      · rw [if_neg g3]
        by_cases g4 : eqS op opGe = true
        · rw [if_pos g4]; exact (notR_sz h1).mono (by decide)
        · rw [if_neg g4]
          by_cases g5 : eqS op opEq = true
          · rw [if_pos g5]; exact (minusR_sz h2 h1).mono (by decide)
          · rw [if_neg g5]; exact (notR_sz (minusR_sz h2 h1)).mono (by decide)
theorem boundR_sz (op : ByteArray) (u : Int) : Sz 20 (boundR op u).1 := by
  unfold boundR
  split
  · exact ⟨by decide, by decide⟩
  · split
    · exact ⟨by decide, by decide⟩
    · exact boundSR_sz op u

set_option maxRecDepth 100000 in
set_option maxHeartbeats 4000000 in
theorem lawBounds (w : World) (op : ByteArray) (n : Int) (hn : -9223372036854775808 ≤ n ∧ n ≤ 9223372036854775807) (x : Int) (hx : -9223372036854775808 ≤ x ∧ x ≤ 9223372036854775807) :
    Calls Try.prog 3 #[.string op, .int .i64 n, .int .i64 x] w fun e w' => e = .returned (.bool true) ∧ Ext w w' := by
  have hP := fun W => boundP_any W op n hn
  have hR := fun W => boundR_any W op n hn
  have hH := bound_has op n x
  have hS := boundR_sz op n
  have hC := inr_can (boundR_can op n)
  have hV := fun W => validR_any x W
  have hO := fun W => holds_any W op x n
  rw [bound_eq] at hP hH
  generalize boundR op n = p at *
  obtain ⟨d, e⟩ := p
  simp only at hP hR hH hS hC
  have HP := Lib.hid hP
  have HR := Lib.hid hR
  have HH := Lib.hid hH
  have HS := Lib.hid hS
  have HC := Lib.hid hC
  clear hP hR hH hS hC
  go_enter Try.func3, Try.ntmps3
  go_wp2_with fail
  refine (HP.out _).mono ?_
  rintro e' w1 ⟨r1, rfl, hm1, hE1⟩
  obtain ⟨A1, c1, B1, e1, rfl, i1, f1⟩ := hm1
  have b1 := BlkN.new w1 (.slice A1 d.ints.length c1) (.slice B1 d.fracs.length e1)
  have n1 : NmAt (w1.alloc (.cells #[.slice A1 d.ints.length c1, .slice B1 d.fracs.length e1] 24)) (.agg #[.slice A1 d.ints.length c1, .slice B1 d.fracs.length e1]) d := NmAt.ext ⟨A1, c1, B1, e1, rfl, i1, f1⟩ ((Ext.refl w1).alloc _)
  have hE1 := hE1.alloc (.cells #[.slice A1 d.ints.length c1, .slice B1 d.fracs.length e1] 24)
  have HB1 := Lib.hid b1
  have HN1 := Lib.hid n1
  have HE1 := Lib.hid hE1
  clear b1 n1 hE1 i1 f1
  go_wp2_with fail
  generalize w1.alloc (.cells #[.slice A1 d.ints.length c1, .slice B1 d.fracs.length e1] 24) = W1 at *
  refine (HR.out _).mono ?_
  rintro e' w2 ⟨r2, rfl, hm2, hE2⟩
  obtain ⟨A2, c2, B2, e2, rfl, i2, f2⟩ := hm2
  have b2 := BlkN.new w2 (.slice A2 d.ints.length c2) (.slice B2 d.fracs.length e2)
  have n2 : NmAt (w2.alloc (.cells #[.slice A2 d.ints.length c2, .slice B2 d.fracs.length e2] 24)) (.agg #[.slice A2 d.ints.length c2, .slice B2 d.fracs.length e2]) d := NmAt.ext ⟨A2, c2, B2, e2, rfl, i2, f2⟩ ((Ext.refl w2).alloc _)
  have hE2 := hE2.alloc (.cells #[.slice A2 d.ints.length c2, .slice B2 d.fracs.length e2] 24)
  have HB1 := Lib.hid (HB1.out.ext hE2)
  have HN1 := Lib.hid (HN1.out.ext hE2)
  have HE2 := Lib.hid (HE1.out.trans hE2)
  have HB2 := Lib.hid b2
  have HN2 := Lib.hid n2
  have z0 := HB1.out.cell0
  have z1 := HB1.out.cell1
  have z2 := b2.cell0
  have z3 := b2.cell1
  clear b2 n2 hE2 i2 f2 HE1
  generalize hW2 : w2.alloc (.cells #[.slice A2 d.ints.length c2, .slice B2 d.fracs.length e2] 24) = W2 at *
  go_wp2_with fail
  refine (sameR_any _ _ d HN1.out _ d HN2.out (HS.out.mono (by decide)) (HS.out.mono (by decide))).mono ?_
  rintro e' w3 ⟨rfl, hE3⟩
  rw [(sameN_tt d d).2 rfl]
  have HE3 := Lib.hid (HE2.out.trans hE3)
  have HB1 := Lib.hid (HB1.out.ext hE3)
  have HN1 := Lib.hid (HN1.out.ext hE3)
  clear hE3 z0 z1 z2 z3 hW2 HB2 HN2 HE2
  have z0 := HB1.out.cell0
  have z1 := HB1.out.cell1
  by_cases he : e = 0
  · subst he
    have hq : Hid (hasP d x = (validB x && holdsL op x n)) := Lib.hid (HH.out rfl)
    go_wp2_with fail
    refine (hasP_any _ _ d x HN1.out (HS.out.mono (by decide)) HC.out hx.1 hx.2).mono ?_
    rintro e' w4 ⟨rfl, hE4⟩
    rw [hq.out]
    have HE4 := Lib.hid (HE3.out.trans hE4)
    clear hE4 z0 z1 HB1 HN1
    generalize validB x = vb at *
    generalize holdsL op x n = hb at *
    cases vb <;> cases hb
    all_goals
      go_wp2_with (first | (go_at_call 17; refine (hV _).mono ?_; rintro e w' ⟨rfl, rfl⟩) | (go_at_call 18; refine (hO _).mono ?_; rintro e w' ⟨rfl, rfl⟩))
      refine (alive_any _).mono ?_
      rintro e' w5 ⟨rfl, hE5⟩
      have HE5 := Lib.hid (HE4.out.trans hE5)
      clear hE5
      go_wp2
      refine bodyPost_ret (results_tmp rfl _ _ _) rfl ⟨rfl, HE5.out⟩
  · have he2 : (e == 0) = false := by simpa using he
    go_wp2_with fail
    refine (alive_any _).mono ?_
    rintro e' w5 ⟨rfl, hE5⟩
    have HE5 := Lib.hid (HE3.out.trans hE5)
    clear hE5
    go_wp2
    refine bodyPost_ret (results_tmp rfl _ _ _) rfl ⟨rfl, HE5.out⟩
end Go.Proofs.Ytaianhhmmacblaa
