import Derived.Test.YtaianhhmmacblaaRelOps
import Derived.Laws.StructEq
/-
  The reference's Same.
-/
namespace Go.Proofs.Ytaianhhmmacblaa
open Go.RowKit

theorem span_ht : Try.prog.underlying 45 = some (.struct (Try.prog.fieldsOf 45)) := by kernel_rfl
theorem span_held : Try.prog.stoodInHeld 45 = false := by kernel_rfl
theorem span_guard : Try.prog.eqGuardType Try.prog.depth 45 = false := by kernel_rfl
theorem run_span_guard (op : BinOp) (x y : Operand) (xs ys : Array Value) (w : World) : (eqGuard op 45 x y (.agg xs) (.agg ys)).run Try.prog w = .ok () w := run_eqGuard_agg w op _ x y xs ys span_guard
theorem span_fields : (Try.prog.fieldsOf 45).toList.map (fun f => (f.name, f.type, f.offset)) = [("Lo", 2, 0), ("Hi", 2, 1)] := by kernel_rfl
theorem two_of_map {α β : Type} (g : α → β) : ∀ (l : List α) (x y : β), l.map g = [x, y] → ∃ a b, l = [a, b] ∧ g a = x ∧ g b = y
  | [a, b], _, _, h => by simp at h; exact ⟨a, b, rfl, h.1, h.2⟩
  | [], _, _, h => by simp at h
  | [_], _, _, h => by simp at h
  | _ :: _ :: _ :: _, _, _, h => by simp at h
theorem run_span_eqIn (w : World) (a b c d : Int) : (Op.equalIn 10000 45 (.agg #[.int .i64 a, .int .i64 b]) (.agg #[.int .i64 c, .int .i64 d])).run Try.prog w = .ok (a == c && b == d) w := by
  rw [run_equalIn_agg w 9999 _ _ _ span_ht span_held]
  obtain ⟨f0, f1, hl, h0, h1⟩ := two_of_map _ _ _ _ span_fields
  rw [hl]
  simp only [Prod.mk.injEq] at h0 h1
  obtain ⟨n0, t0, o0⟩ := h0
  obtain ⟨n1, t1, o1⟩ := h1
  have h2 := Try.underlying2
  have hp : ∀ (cs : Array Value) (o : Nat) (v : Value), cs[o]? = some v → (part 2 cs o).run Try.prog w = .ok v w := by
    intro cs o v hv
    have hag : (isAgg 2).run Try.prog w = .ok false w := by kernel_rfl
    simp [part, hag, hv]
  have p0 := hp #[.int .i64 a, .int .i64 b] 0 (.int .i64 a) rfl
  have p1 := hp #[.int .i64 a, .int .i64 b] 1 (.int .i64 b) rfl
  have q0 := hp #[.int .i64 c, .int .i64 d] 0 (.int .i64 c) rfl
  have q1 := hp #[.int .i64 c, .int .i64 d] 1 (.int .i64 d) rfl
  have r0 := run_equalIn_int (P := Try.prog) w 9998 2 .i64 .i64 a c h2
  have r1 := run_equalIn_int (P := Try.prog) w 9998 2 .i64 .i64 b d h2
  clear hp
  change (Op.equalIn 9999 2 (.int .i64 a) (.int .i64 c)).run Try.prog w = .ok (a == c) w at r0
  change (Op.equalIn 9999 2 (.int .i64 b) (.int .i64 d)).run Try.prog w = .ok (b == d) w at r1
  have e0 : f0.name ≠ "_" := by rw [n0]; decide
  have e1 : f1.name ≠ "_" := by rw [n1]; decide
  rw [Op.eqFields, if_pos e0, t0, o0, Op.eqFields, if_pos e1, t1, o1, Op.eqFields]
  simp only [Sem.run_bind, p0, q0, r0, Result.andThen_ok]
  cases hac : (a == c) <;> cases hbd : (b == d) <;> simp [p1, q1, r1, hbd]
theorem run_span_neq (w : World) (a b c d : Int) : (binOp .neq 45 (.agg #[.int .i64 a, .int .i64 b]) (.agg #[.int .i64 c, .int .i64 d])).run Try.prog w = .ok (.bool (!(a == c && b == d))) w := by
  rw [run_neq_struct, run_span_eqIn]; rfl

theorem sameL_step (l l' : List Sp) (hn : l.length = l'.length) (h : ∀ (k : Nat) (s s' : Sp), l[k]? = some s → l'[k]? = some s' → s = s') : l = l' := by
  apply List.ext_getElem hn
  intro k h1 h2
  exact h k _ _ (List.getElem?_eq_getElem h1) (List.getElem?_eq_getElem h2)

set_option maxRecDepth 100000 in
set_option maxHeartbeats 1000000 in
theorem sameSpans_any (w : World) (v v' : Value) (l l' : List Sp) (h : SpAt w v l) (h' : SpAt w v' l') (hl : l.length ≤ 100000000) (hl' : l'.length ≤ 100000000) :
    Calls Try.prog 52 #[v, v'] w fun e w' => e = .returned (.bool (decide (l = l'))) ∧ Ext w w' := by
  obtain ⟨A, c, rfl, h1⟩ := h
  obtain ⟨A', c', rfl, h2⟩ := h'
  by_cases hn : l.length = l'.length
  · have hneq : ((l.length : Int) != (l'.length : Int)) = false := by rw [hn]; simp
    have Hn := Lib.hid hn
    clear hn
    go_enter Try.func52, Try.ntmps52
    go_wp2
    go_loopw [5, 13] (fun _ i wr => ∃ k : Nat, k ≤ l.length ∧ i = .int .i64 k ∧ Hid (∀ (j : Nat) (s s' : Sp), j < k → l[j]? = some s → l'[j]? = some s' → s = s') ∧ Ext w wr) (fun _ i _ => l.length - (intOf i).toNat)
    case atStart => exact ⟨0, Nat.zero_le _, rfl, Lib.hid (fun j _ _ hj => by omega), Ext.refl _⟩
    case round =>
      obtain ⟨k, hk, rfl, Hpre, hE⟩ := hrel
      have hn := Hn.out
      by_cases hlt : k < l.length
      · have hlt' : k < l'.length := by omega
        have hki : (0 : Int) ≤ (k : Int) := by omega
        have hki2 : (k : Int) < (l.length : Int) := by omega
        have hki3 : (k : Int) < (l'.length : Int) := by omega
        have hg1 := List.getElem?_eq_getElem hlt
        have hg2 := List.getElem?_eq_getElem hlt'
        obtain ⟨b, off, rfl, hbB, hc0, hc1⟩ := h1.at_ hlt
        obtain ⟨b', off', rfl, hbB', hc0', hc1'⟩ := h2.at_ hlt'
        have hd0 := (hE.cell ⟨b, off + k * 2, none⟩ hbB).trans hc0
        have hd1 := (hE.cell ⟨b, off + k * 2 + 1, none⟩ hbB).trans hc1
        have hd0' := (hE.cell ⟨b', off' + k * 2, none⟩ hbB').trans hc0'
        have hd1' := (hE.cell ⟨b', off' + k * 2 + 1, none⟩ hbB').trans hc1'
        clear hc0 hc1 hc0' hc1'
        generalize l[k] = s at *
        generalize l'[k] = s' at *
        obtain ⟨x, y⟩ := s
        obtain ⟨x', y'⟩ := s'
        simp only at hd0 hd1 hd0' hd1'
        have G1 := Lib.hid hg1
        have G2 := Lib.hid hg2
        clear hg1 hg2 hn h1 h2
        have hq := run_span_neq
        have hgd := run_span_guard
        by_cases he : x = x' ∧ y = y'
        · obtain ⟨rfl, rfl⟩ := he
          have hb1 : (x == x) = true := by simp
          have hb2 : (y == y) = true := by simp
          go_wp2
          go_quiet (fail)
          go_wp2
          go_roundw
          case rel =>
            refine ⟨k + 1, by omega, by go_num, Lib.hid fun j s s' hj e1 e2 => ?_, hE.drewN _⟩
            by_cases hjk : j = k
            · subst hjk
              rw [G1.out] at e1
              rw [G2.out] at e2
              cases e1
              cases e2
              rfl
            · exact Hpre.out j s s' (by omega) e1 e2
          case measure => simp [intOf]; omega
        · have hb1 : (x == x' && y == y') = false := by
            cases hx : (x == x' && y == y') with
            | false => rfl
            | true => simp at hx; exact absurd hx he
          have hd : decide (l = l') = false := by
            rw [decide_eq_false_iff_not]
            rintro rfl
            have e1 := G1.out
            rw [G2.out] at e1
            cases e1
            exact he ⟨rfl, rfl⟩
          have HD := Lib.hid hd
          clear he hd
          go_wp2
          go_quiet (fail)
          go_wp2
          go_ret
          exact ⟨by simpa using HD.out, hE.drewN _⟩
      · have hkl : k = l.length := by omega
        have hd : decide (l = l') = true := by
          rw [decide_eq_true_eq]
          exact sameL_step l l' hn fun j s s' e1 e2 => Hpre.out j s s' (by have := (List.getElem?_eq_some_iff.1 e1).1; omega) e1 e2
        have HD := Lib.hid hd
        clear hd hkl hn
        go_wp2
        go_ret
        exact ⟨by simpa using HD.out, hE⟩
  · have hneq : ((l.length : Int) != (l'.length : Int)) = true := by rw [bne_iff_ne]; omega
    have hd : decide (l = l') = false := by rw [decide_eq_false_iff_not]; rintro rfl; exact hn rfl
    rw [hd]
    clear hn hd
    go_enter Try.func52, Try.ntmps52
    go_wp2
    go_ret
    exact ⟨rfl, Ext.refl _⟩

set_option maxRecDepth 100000 in
set_option maxHeartbeats 1000000 in
theorem equalSpans_any (w : World) (v v' : Value) (l l' : List Sp) (h : SpAt w v l) (h' : SpAt w v' l') (hl : l.length ≤ 100000000) (hl' : l'.length ≤ 100000000) :
    Calls Try.prog 88 #[v, v'] w fun e w' => e = .returned (.bool (decide (l = l'))) ∧ Ext w w' := by
  obtain ⟨A, c, rfl, h1⟩ := h
  obtain ⟨A', c', rfl, h2⟩ := h'
  by_cases hn : l.length = l'.length
  · have hneq : ((l.length : Int) != (l'.length : Int)) = false := by rw [hn]; simp
    have Hn := Lib.hid hn
    clear hn
    go_enter Try.func88, Try.ntmps88
    go_wp2
    go_loopw [5, 13] (fun _ i wr => ∃ k : Nat, k ≤ l.length ∧ i = .int .i64 k ∧ Hid (∀ (j : Nat) (s s' : Sp), j < k → l[j]? = some s → l'[j]? = some s' → s = s') ∧ Ext w wr) (fun _ i _ => l.length - (intOf i).toNat)
    case atStart => exact ⟨0, Nat.zero_le _, rfl, Lib.hid (fun j _ _ hj => by omega), Ext.refl _⟩
    case round =>
      obtain ⟨k, hk, rfl, Hpre, hE⟩ := hrel
      have hn := Hn.out
      by_cases hlt : k < l.length
      · have hlt' : k < l'.length := by omega
        have hki : (0 : Int) ≤ (k : Int) := by omega
        have hki2 : (k : Int) < (l.length : Int) := by omega
        have hki3 : (k : Int) < (l'.length : Int) := by omega
        have hg1 := List.getElem?_eq_getElem hlt
        have hg2 := List.getElem?_eq_getElem hlt'
        obtain ⟨b, off, rfl, hbB, hc0, hc1⟩ := h1.at_ hlt
        obtain ⟨b', off', rfl, hbB', hc0', hc1'⟩ := h2.at_ hlt'
        have hd0 := (hE.cell ⟨b, off + k * 2, none⟩ hbB).trans hc0
        have hd1 := (hE.cell ⟨b, off + k * 2 + 1, none⟩ hbB).trans hc1
        have hd0' := (hE.cell ⟨b', off' + k * 2, none⟩ hbB').trans hc0'
        have hd1' := (hE.cell ⟨b', off' + k * 2 + 1, none⟩ hbB').trans hc1'
        clear hc0 hc1 hc0' hc1'
        generalize l[k] = s at *
        generalize l'[k] = s' at *
        obtain ⟨x, y⟩ := s
        obtain ⟨x', y'⟩ := s'
        simp only at hd0 hd1 hd0' hd1'
        have G1 := Lib.hid hg1
        have G2 := Lib.hid hg2
        clear hg1 hg2 hn h1 h2
        have hq := run_span_neq
        have hgd := run_span_guard
        by_cases he : x = x' ∧ y = y'
        · obtain ⟨rfl, rfl⟩ := he
          have hb1 : (x == x) = true := by simp
          have hb2 : (y == y) = true := by simp
          go_wp2
          go_quiet (fail)
          go_wp2
          go_roundw
          case rel =>
            refine ⟨k + 1, by omega, by go_num, Lib.hid fun j s s' hj e1 e2 => ?_, hE.drewN _⟩
            by_cases hjk : j = k
            · subst hjk
              rw [G1.out] at e1
              rw [G2.out] at e2
              cases e1
              cases e2
              rfl
            · exact Hpre.out j s s' (by omega) e1 e2
          case measure => simp [intOf]; omega
        · have hb1 : (x == x' && y == y') = false := by
            cases hx : (x == x' && y == y') with
            | false => rfl
            | true => simp at hx; exact absurd hx he
          have hd : decide (l = l') = false := by
            rw [decide_eq_false_iff_not]
            rintro rfl
            have e1 := G1.out
            rw [G2.out] at e1
            cases e1
            exact he ⟨rfl, rfl⟩
          have HD := Lib.hid hd
          clear he hd
          go_wp2
          go_quiet (fail)
          go_wp2
          go_ret
          exact ⟨by simpa using HD.out, hE.drewN _⟩
      · have hkl : k = l.length := by omega
        have hd : decide (l = l') = true := by
          rw [decide_eq_true_eq]
          exact sameL_step l l' hn fun j s s' e1 e2 => Hpre.out j s s' (by have := (List.getElem?_eq_some_iff.1 e1).1; omega) e1 e2
        have HD := Lib.hid hd
        clear hd hkl hn
        go_wp2
        go_ret
        exact ⟨by simpa using HD.out, hE⟩
  · have hneq : ((l.length : Int) != (l'.length : Int)) = true := by rw [bne_iff_ne]; omega
    have hd : decide (l = l') = false := by rw [decide_eq_false_iff_not]; rintro rfl; exact hn rfl
    rw [hd]
    clear hn hd
    go_enter Try.func88, Try.ntmps88
    go_wp2
    go_ret
    exact ⟨rfl, Ext.refl _⟩

end Go.Proofs.Ytaianhhmmacblaa
/-
  Same, of the reference and of the program.
-/
namespace Go.Proofs.Ytaianhhmmacblaa
open Go.RowKit

theorem sameN_iff (a b : Nm) : sameN a b = (decide (a.ints = b.ints) && decide (a.fracs = b.fracs)) := by
  unfold sameN
  cases a; cases b
  simp
set_option maxRecDepth 100000 in
set_option maxHeartbeats 400000 in
theorem sameR_any (w : World) (v0 : Value) (a : Nm) (h0 : NmAt w v0 a) (v1 : Value) (b : Nm) (h1 : NmAt w v1 b) (hs : Sz 100000000 a) (hs' : Sz 100000000 b) :
    Calls Try.prog 14 #[v0, v1] w fun e w' => e = .returned (.bool (sameN a b)) ∧ Ext w w' := by
  have g0 := h0
  obtain ⟨A0, c0, B0, e0, rfl, x0, y0⟩ := g0
  have g1 := h1
  obtain ⟨A1, c1, B1, e1, rfl, x1, y1⟩ := g1
  have b0 : BlkN ((w.alloc (.cells #[.slice A0 a.ints.length c0, .slice B0 a.fracs.length e0] 24)).alloc (.cells #[.slice A1 b.ints.length c1, .slice B1 b.fracs.length e1] 24)) w.heap.size (.slice A0 a.ints.length c0) (.slice B0 a.fracs.length e0) := by simpa using (BlkN.new w (.slice A0 a.ints.length c0) (.slice B0 a.fracs.length e0)).alloc _
  have b1 : BlkN ((w.alloc (.cells #[.slice A0 a.ints.length c0, .slice B0 a.fracs.length e0] 24)).alloc (.cells #[.slice A1 b.ints.length c1, .slice B1 b.fracs.length e1] 24)) (w.heap.size + 1) (.slice A1 b.ints.length c1) (.slice B1 b.fracs.length e1) := by simpa using BlkN.new (w.alloc (.cells #[.slice A0 a.ints.length c0, .slice B0 a.fracs.length e0] 24)) (.slice A1 b.ints.length c1) (.slice B1 b.fracs.length e1)
  have hEW : Ext w ((w.alloc (.cells #[.slice A0 a.ints.length c0, .slice B0 a.fracs.length e0] 24)).alloc (.cells #[.slice A1 b.ints.length c1, .slice B1 b.fracs.length e1] 24)) := ((Ext.refl w).alloc _).alloc _
  have k0 := h0.ext hEW
  have k1 := h1.ext hEW
  have f0a := fun w' (h : Ext ((w.alloc (.cells #[.slice A0 a.ints.length c0, .slice B0 a.fracs.length e0] 24)).alloc (.cells #[.slice A1 b.ints.length c1, .slice B1 b.fracs.length e1] 24)) w') => (b0.ext h).cell0
  have f0b := fun w' (h : Ext ((w.alloc (.cells #[.slice A0 a.ints.length c0, .slice B0 a.fracs.length e0] 24)).alloc (.cells #[.slice A1 b.ints.length c1, .slice B1 b.fracs.length e1] 24)) w') => (b0.ext h).cell1
  have f1a := fun w' (h : Ext ((w.alloc (.cells #[.slice A0 a.ints.length c0, .slice B0 a.fracs.length e0] 24)).alloc (.cells #[.slice A1 b.ints.length c1, .slice B1 b.fracs.length e1] 24)) w') => (b1.ext h).cell0
  have f1b := fun w' (h : Ext ((w.alloc (.cells #[.slice A0 a.ints.length c0, .slice B0 a.fracs.length e0] 24)).alloc (.cells #[.slice A1 b.ints.length c1, .slice B1 b.fracs.length e1] 24)) w') => (b1.ext h).cell1
  have K0 := Lib.hid k0
  have K1 := Lib.hid k1
  have si0 : SpAt ((w.alloc (.cells #[.slice A0 a.ints.length c0, .slice B0 a.fracs.length e0] 24)).alloc (.cells #[.slice A1 b.ints.length c1, .slice B1 b.fracs.length e1] 24)) (.slice A0 a.ints.length c0) a.ints := ⟨A0, c0, rfl, x0.ext hEW⟩
  have sf0 : SpAt ((w.alloc (.cells #[.slice A0 a.ints.length c0, .slice B0 a.fracs.length e0] 24)).alloc (.cells #[.slice A1 b.ints.length c1, .slice B1 b.fracs.length e1] 24)) (.slice B0 a.fracs.length e0) a.fracs := ⟨B0, e0, rfl, y0.ext hEW⟩
  have SI0 := Lib.hid si0
  have SF0 := Lib.hid sf0
  clear si0 sf0
  have si1 : SpAt ((w.alloc (.cells #[.slice A0 a.ints.length c0, .slice B0 a.fracs.length e0] 24)).alloc (.cells #[.slice A1 b.ints.length c1, .slice B1 b.fracs.length e1] 24)) (.slice A1 b.ints.length c1) b.ints := ⟨A1, c1, rfl, x1.ext hEW⟩
  have sf1 : SpAt ((w.alloc (.cells #[.slice A0 a.ints.length c0, .slice B0 a.fracs.length e0] 24)).alloc (.cells #[.slice A1 b.ints.length c1, .slice B1 b.fracs.length e1] 24)) (.slice B1 b.fracs.length e1) b.fracs := ⟨B1, e1, rfl, y1.ext hEW⟩
  have SI1 := Lib.hid si1
  have SF1 := Lib.hid sf1
  clear si1 sf1
  have HE := Lib.hid hEW
  clear hEW b0 h0 k0 x0 y0 b1 h1 k1 x1 y1
  go_enter Try.func14, Try.ntmps14
  rw [sameN_iff]
  by_cases h1 : a.ints = b.ints
  · have hd : decide (a.ints = b.ints) = true := decide_eq_true h1
    have H1 := Lib.hid h1
    clear h1
    go_wp2_with fail
    refine (sameSpans_any _ _ _ a.ints b.ints SI0.out SI1.out hs.1 hs'.1).mono ?_
    rw [hd]
    rintro e w1 ⟨rfl, hE1⟩
    clear hd
    go_wp2_with fail
    refine (sameSpans_any _ _ _ a.fracs b.fracs (SF0.out.ext hE1) (SF1.out.ext hE1) hs.2 hs'.2).mono ?_
    rintro e w2 ⟨rfl, hE2⟩
    have HF := Lib.hid ((HE.out.trans hE1).trans hE2)
    go_wp2
    go_ret
    exact ⟨by simp [H1.out], HF.out⟩
  · have hd : decide (a.ints = b.ints) = false := decide_eq_false h1
    have H1 := Lib.hid h1
    clear h1
    go_wp2_with fail
    refine (sameSpans_any _ _ _ a.ints b.ints SI0.out SI1.out hs.1 hs'.1).mono ?_
    rw [hd]
    rintro e w1 ⟨rfl, hE1⟩
    have HF := Lib.hid (HE.out.trans hE1)
    clear hd
    go_wp2
    go_ret
    exact ⟨by simp [H1.out], HF.out⟩

set_option maxRecDepth 100000 in
set_option maxHeartbeats 400000 in
theorem sameP_any (w : World) (v0 : Value) (a : Nm) (h0 : NmAt w v0 a) (v1 : Value) (b : Nm) (h1 : NmAt w v1 b) (hs : Sz 100000000 a) (hs' : Sz 100000000 b) :
    Calls Try.prog 71 #[v0, v1] w fun e w' => e = .returned (.bool (sameN a b)) ∧ Ext w w' := by
  have g0 := h0
  obtain ⟨A0, c0, B0, e0, rfl, x0, y0⟩ := g0
  have g1 := h1
  obtain ⟨A1, c1, B1, e1, rfl, x1, y1⟩ := g1
  have b0 : BlkN ((w.alloc (.cells #[.slice A0 a.ints.length c0, .slice B0 a.fracs.length e0] 24)).alloc (.cells #[.slice A1 b.ints.length c1, .slice B1 b.fracs.length e1] 24)) w.heap.size (.slice A0 a.ints.length c0) (.slice B0 a.fracs.length e0) := by simpa using (BlkN.new w (.slice A0 a.ints.length c0) (.slice B0 a.fracs.length e0)).alloc _
  have b1 : BlkN ((w.alloc (.cells #[.slice A0 a.ints.length c0, .slice B0 a.fracs.length e0] 24)).alloc (.cells #[.slice A1 b.ints.length c1, .slice B1 b.fracs.length e1] 24)) (w.heap.size + 1) (.slice A1 b.ints.length c1) (.slice B1 b.fracs.length e1) := by simpa using BlkN.new (w.alloc (.cells #[.slice A0 a.ints.length c0, .slice B0 a.fracs.length e0] 24)) (.slice A1 b.ints.length c1) (.slice B1 b.fracs.length e1)
  have hEW : Ext w ((w.alloc (.cells #[.slice A0 a.ints.length c0, .slice B0 a.fracs.length e0] 24)).alloc (.cells #[.slice A1 b.ints.length c1, .slice B1 b.fracs.length e1] 24)) := ((Ext.refl w).alloc _).alloc _
  have k0 := h0.ext hEW
  have k1 := h1.ext hEW
  have f0a := fun w' (h : Ext ((w.alloc (.cells #[.slice A0 a.ints.length c0, .slice B0 a.fracs.length e0] 24)).alloc (.cells #[.slice A1 b.ints.length c1, .slice B1 b.fracs.length e1] 24)) w') => (b0.ext h).cell0
  have f0b := fun w' (h : Ext ((w.alloc (.cells #[.slice A0 a.ints.length c0, .slice B0 a.fracs.length e0] 24)).alloc (.cells #[.slice A1 b.ints.length c1, .slice B1 b.fracs.length e1] 24)) w') => (b0.ext h).cell1
  have f1a := fun w' (h : Ext ((w.alloc (.cells #[.slice A0 a.ints.length c0, .slice B0 a.fracs.length e0] 24)).alloc (.cells #[.slice A1 b.ints.length c1, .slice B1 b.fracs.length e1] 24)) w') => (b1.ext h).cell0
  have f1b := fun w' (h : Ext ((w.alloc (.cells #[.slice A0 a.ints.length c0, .slice B0 a.fracs.length e0] 24)).alloc (.cells #[.slice A1 b.ints.length c1, .slice B1 b.fracs.length e1] 24)) w') => (b1.ext h).cell1
  have K0 := Lib.hid k0
  have K1 := Lib.hid k1
  have si0 : SpAt ((w.alloc (.cells #[.slice A0 a.ints.length c0, .slice B0 a.fracs.length e0] 24)).alloc (.cells #[.slice A1 b.ints.length c1, .slice B1 b.fracs.length e1] 24)) (.slice A0 a.ints.length c0) a.ints := ⟨A0, c0, rfl, x0.ext hEW⟩
  have sf0 : SpAt ((w.alloc (.cells #[.slice A0 a.ints.length c0, .slice B0 a.fracs.length e0] 24)).alloc (.cells #[.slice A1 b.ints.length c1, .slice B1 b.fracs.length e1] 24)) (.slice B0 a.fracs.length e0) a.fracs := ⟨B0, e0, rfl, y0.ext hEW⟩
  have SI0 := Lib.hid si0
  have SF0 := Lib.hid sf0
  clear si0 sf0
  have si1 : SpAt ((w.alloc (.cells #[.slice A0 a.ints.length c0, .slice B0 a.fracs.length e0] 24)).alloc (.cells #[.slice A1 b.ints.length c1, .slice B1 b.fracs.length e1] 24)) (.slice A1 b.ints.length c1) b.ints := ⟨A1, c1, rfl, x1.ext hEW⟩
  have sf1 : SpAt ((w.alloc (.cells #[.slice A0 a.ints.length c0, .slice B0 a.fracs.length e0] 24)).alloc (.cells #[.slice A1 b.ints.length c1, .slice B1 b.fracs.length e1] 24)) (.slice B1 b.fracs.length e1) b.fracs := ⟨B1, e1, rfl, y1.ext hEW⟩
  have SI1 := Lib.hid si1
  have SF1 := Lib.hid sf1
  clear si1 sf1
  have HE := Lib.hid hEW
  clear hEW b0 h0 k0 x0 y0 b1 h1 k1 x1 y1
  go_enter Try.func71, Try.ntmps71
  rw [sameN_iff]
  by_cases h1 : a.ints = b.ints
  · have hd : decide (a.ints = b.ints) = true := decide_eq_true h1
    have H1 := Lib.hid h1
    clear h1
    go_wp2_with fail
    refine (equalSpans_any _ _ _ a.ints b.ints SI0.out SI1.out hs.1 hs'.1).mono ?_
    rw [hd]
    rintro e w1 ⟨rfl, hE1⟩
    clear hd
    go_wp2_with fail
    refine (equalSpans_any _ _ _ a.fracs b.fracs (SF0.out.ext hE1) (SF1.out.ext hE1) hs.2 hs'.2).mono ?_
    rintro e w2 ⟨rfl, hE2⟩
    have HF := Lib.hid ((HE.out.trans hE1).trans hE2)
    go_wp2
    go_ret
    exact ⟨by simp [H1.out], HF.out⟩
  · have hd : decide (a.ints = b.ints) = false := decide_eq_false h1
    have H1 := Lib.hid h1
    clear h1
    go_wp2_with fail
    refine (equalSpans_any _ _ _ a.ints b.ints SI0.out SI1.out hs.1 hs'.1).mono ?_
    rw [hd]
    rintro e w1 ⟨rfl, hE1⟩
    have HF := Lib.hid (HE.out.trans hE1)
    clear hd
    go_wp2
    go_ret
    exact ⟨by simp [H1.out], HF.out⟩

end Go.Proofs.Ytaianhhmmacblaa
