import Derived.Test.YtaianhhmmacblaaOrP
import Derived.Test.YtaianhhmmacblaaField
import Derived.Shelf.Abstract
/-
  The program's inside and Has.
-/
namespace Go.Proofs.Ytaianhhmmacblaa
open Go.RowKit

set_option maxRecDepth 100000 in
theorem inside1_any (W : World) (lo hi n : Int) (b : Nat) (hb : W.cell? ⟨b, 0, none⟩ = some (.int .i64 n)) (hlt : b < W.heap.size) :
    Calls Try.prog 78 #[.agg #[.int .i64 lo, .int .i64 hi], .pointer (some ⟨b, 0, none⟩)] W fun e w' => e = .returned (.bool (inB n (lo, hi))) ∧ Ext W w' := by
  have hba : ∀ o, (W.alloc o).cell? ⟨b, 0, none⟩ = some (.int .i64 n) := fun o => (World.cell?_alloc_lt W o _ hlt).trans hb
  have hd : inB n (lo, hi) = (decide (lo ≤ n) && decide (n ≤ hi)) := rfl
  have HD := Lib.hid hd
  clear hd
  by_cases h1 : lo ≤ n
  · have d1 : decide (lo ≤ n) = true := decide_eq_true h1
    have H1 := Lib.hid h1
    clear h1
    go_enter Try.func78, Try.ntmps78
    go_wp2
    go_ret
    exact ⟨by have e := HD.out; rw [d1] at e; rw [e]; simp, (Ext.refl _).alloc _⟩
  · have d1 : decide (lo ≤ n) = false := decide_eq_false h1
    have H1 := Lib.hid h1
    clear h1
    go_enter Try.func78, Try.ntmps78
    go_wp2
    go_ret
    exact ⟨by have e := HD.out; rw [d1] at e; rw [e]; simp, (Ext.refl _).alloc _⟩

set_option maxRecDepth 100000 in
set_option maxHeartbeats 1000000 in
theorem indexFunc_any (w : World) (v : Value) (l : List Sp) (n : Int) (b : Nat) (h : SpAt w v l) (hl : l.length ≤ 100000000) (hb : w.cell? ⟨b, 0, none⟩ = some (.int .i64 n)) (hblt : b < w.heap.size) :
    Calls Try.prog 89 #[v, .func (.func 78) #[] #[.pointer (some ⟨b, 0, none⟩)]] w fun e w' => ∃ i : Int, e = .returned (.int .i64 i) ∧ (decide (0 ≤ i) = insideB l n) ∧ Ext w w' := by
  obtain ⟨A, c, rfl, hA⟩ := h
  have eg : ∀ args w, (callFunc 78 args).run Try.prog w = .ok (.enter 78 args) w := enters_of Try.func78 (by kernel_rfl) rfl
  go_enter Try.func89, Try.ntmps89
  go_wp2
  go_loopw [5, 8] (fun _ i wr => ∃ k : Nat, k ≤ l.length ∧ i = .int .i64 k ∧ Hid (insideB (l.take k) n = false) ∧ Ext w wr) (fun _ i _ => l.length - (intOf i).toNat)
  case atStart => exact ⟨0, Nat.zero_le _, rfl, rfl, Ext.refl _⟩
  case round =>
    obtain ⟨k, hk, rfl, hno, hE⟩ := hrel
    by_cases hlt : k < l.length
    · obtain ⟨bb, off, rfl, hbB, hc0, hc1⟩ := hA.at_ hlt
      have hd0 := (hE.cell ⟨bb, off + k * 2, none⟩ hbB).trans hc0
      have hd1 := (hE.cell ⟨bb, off + k * 2 + 1, none⟩ hbB).trans hc1
      have hst : insideB (l.take (k + 1)) n = (insideB (l.take k) n || inB n l[k]) := by
        unfold insideB
        rw [List.take_succ_eq_append_getElem hlt, List.any_append]
        simp only [List.any_cons, List.any_nil, Bool.or_false]
      have hbw := (hE.cell ⟨b, 0, none⟩ hblt).trans hb
      have hsz := hE.size
      have HST := Lib.hid hst
      have hmem : inB n l[k] = true → insideB l n = true := fun h => by unfold insideB; rw [List.any_eq_true]; exact ⟨_, List.getElem_mem hlt, h⟩
      have HM := Lib.hid hmem
      clear hc0 hc1 hA hst hmem
      generalize l[k] = s at *
      obtain ⟨lo, hi⟩ := s
      simp only at hd0 hd1
      have HB := Lib.hid hbw
      clear hbw hb
      go_wp2_with fail
      refine (inside1_any _ lo hi n b HB.out (by omega)).mono ?_
      rintro e w1 ⟨rfl, hE1⟩
      have hE2 := hE.trans hE1
      clear hE hE1
      cases hin : inB n (lo, hi) with
      | true =>
        have hres := HM.out hin
        have HR := Lib.hid hres
        clear hres hin
        go_wp2
        go_ret
        exact ⟨_, rfl, by rw [HR.out]; simp, hE2⟩
      | false =>
        have hno2 : insideB (l.take (k + 1)) n = false := by rw [HST.out, hno.out, hin]; rfl
        have HNO := Lib.hid hno2
        clear hno2 hin
        go_wp2
        go_roundw
        case rel => exact ⟨k + 1, by omega, by go_num, HNO, hE2⟩
        case measure => simp [intOf]; omega
    · have hkl : k = l.length := by omega
      subst hkl
      have hno2 : insideB l n = false := by
        have := hno.out
        rwa [List.take_of_length_le (Nat.le_refl _)] at this
      have HNO := Lib.hid hno2
      clear hno hno2
      go_wp2
      go_ret
      exact ⟨_, rfl, by rw [HNO.out]; rfl, hE⟩

set_option maxRecDepth 100000 in
theorem containsFunc_any (w : World) (v : Value) (l : List Sp) (n : Int) (b : Nat) (h : SpAt w v l) (hl : l.length ≤ 100000000) (hb : w.cell? ⟨b, 0, none⟩ = some (.int .i64 n)) (hblt : b < w.heap.size) :
    Calls Try.prog 77 #[v, .func (.func 78) #[] #[.pointer (some ⟨b, 0, none⟩)]] w fun e w' => e = .returned (.bool (insideB l n)) ∧ Ext w w' := by
  have hcon := indexFunc_any w v l n b h hl hb hblt
  have HC := Lib.hid hcon
  clear hcon h hb
  go_enter Try.func77, Try.ntmps77
  go_wp2_with fail
  refine HC.out.mono ?_
  rintro e w1 ⟨i, rfl, hi, hE1⟩
  have HI := Lib.hid hi
  clear hi
  go_wp2
  go_ret
  exact ⟨by rw [← HI.out]; rfl, hE1⟩

set_option maxRecDepth 100000 in
theorem inside_any (w : World) (v : Value) (l : List Sp) (n : Int) (h : SpAt w v l) (hl : l.length ≤ 100000000) :
    Calls Try.prog 55 #[v, .int .i64 n] w fun e w' => e = .returned (.bool (insideB l n)) ∧ Ext w w' := by
  have h' := h.ext ((Ext.refl w).alloc (.cells #[.int .i64 n] 2))
  have HH := Lib.hid h'
  clear h h'
  go_enter Try.func55, Try.ntmps55
  go_wp2_with fail
  refine (containsFunc_any _ v l n w.heap.size HH.out hl (by simp) (by simp)).mono ?_
  rintro e w1 ⟨rfl, hE1⟩
  have HE := Lib.hid (((Ext.refl w).alloc _).trans hE1)
  clear hE1
  go_wp2
  go_ret
  exact ⟨rfl, HE.out⟩

set_option maxRecDepth 100000 in
set_option maxHeartbeats 1000000 in
theorem hasP_any (w : World) (v0 : Value) (d : Nm) (u : Int) (h0 : NmAt w v0 d) (hs : Sz 1000000 d) (hr : InR d.fracs) (hu1 : -9223372036854775808 ≤ u) (hu2 : u ≤ 9223372036854775807) :
    Calls Try.prog 16 #[v0, .int .i64 u] w fun e w' => e = .returned (.bool (hasP d u)) ∧ Ext w w' := by
  obtain ⟨A0, c0, B0, e0, rfl, x0, y0⟩ := h0
  have b0 := BlkN.new w (.slice A0 d.ints.length c0) (.slice B0 d.fracs.length e0)
  have k0 : NmAt (w.alloc (.cells #[.slice A0 d.ints.length c0, .slice B0 d.fracs.length e0] 24)) (.agg #[.slice A0 d.ints.length c0, .slice B0 d.fracs.length e0]) d := NmAt.ext ⟨A0, c0, B0, e0, rfl, x0, y0⟩ ((Ext.refl w).alloc _)
  have K0 := Lib.hid k0
  have HE : Hid (Ext w (w.alloc (.cells #[.slice A0 d.ints.length c0, .slice B0 d.fracs.length e0] 24))) := Lib.hid ((Ext.refl w).alloc _)
  have hdef : hasP d u = (validB u && if u % 10000 = 0 then insideB (makeR d).ints (u / 10000) else insideB (makeR d).fracs u) := rfl
  have HD := Lib.hid hdef
  have szm := makeR_sz hs
  have hf0 := run_field0
  have hf1 := run_field1
  clear b0 k0 x0 y0 hdef
  go_enter Try.func16, Try.ntmps16
  cases hv : validB u with
  | false =>
    have HV := Lib.hid hv
    have hcon := fun W => validP_any u W
    simp only [hv] at hcon
    clear hv
    go_wp2_with (go_at_call 49; refine (hcon _).mono ?_; rintro e w' ⟨rfl, rfl⟩)
    go_ret
    exact ⟨by rw [HD.out, HV.out]; rfl, HE.out⟩
  | true =>
    have HV := Lib.hid hv
    have hcon := fun W => validP_any u W
    simp only [hv] at hcon
    have hvv := (valid_iff u).1 hv
    clear hv
    have HZ := Lib.hid (tmod_zero u 10000)
    by_cases hz : u % 10000 = 0
    · have hz' := HZ.out.2 hz
      have hq := tdiv_whole u 10000 hz
      have HZ2 := Lib.hid hz
      clear hz
      go_wp2_with (go_at_call 49; refine (hcon _).mono ?_; rintro e w' ⟨rfl, rfl⟩)
      refine (makeP_any _ _ d K0.out hs hr).mono ?_
      rintro e w1 ⟨r, rfl, ⟨A1, c1, B1, e1, rfl, x1, y1⟩, hE1⟩
      have S1 : Hid (SpAt w1 (.slice A1 (makeR d).ints.length c1) (makeR d).ints) := Lib.hid ⟨A1, c1, rfl, x1⟩
      clear x1 y1
      go_wp2_with fail
      refine (inside_any _ _ (makeR d).ints _ S1.out (by have := szm.1; omega)).mono ?_
      rintro e w2 ⟨rfl, hE2⟩
      have HF := Lib.hid ((HE.out.trans hE1).trans hE2)
      clear hE1 hE2
      go_wp2
      go_ret
      exact ⟨by rw [HD.out, HV.out, if_pos HZ2.out]; simp, HF.out⟩
    · have hz' : ¬ u.tmod 10000 = 0 := fun h => hz (HZ.out.1 h)
      have HZ2 := Lib.hid hz
      clear hz
      go_wp2_with (go_at_call 49; refine (hcon _).mono ?_; rintro e w' ⟨rfl, rfl⟩)
      refine (makeP_any _ _ d K0.out hs hr).mono ?_
      rintro e w1 ⟨r, rfl, ⟨A1, c1, B1, e1, rfl, x1, y1⟩, hE1⟩
      have S1 : Hid (SpAt w1 (.slice B1 (makeR d).fracs.length e1) (makeR d).fracs) := Lib.hid ⟨B1, e1, rfl, y1⟩
      clear x1 y1
      go_wp2_with fail
      refine (inside_any _ _ (makeR d).fracs u S1.out (by have := szm.2; omega)).mono ?_
      rintro e w2 ⟨rfl, hE2⟩
      have HF := Lib.hid ((HE.out.trans hE1).trans hE2)
      clear hE1 hE2
      go_wp2
      go_ret
      exact ⟨by rw [HD.out, HV.out, if_neg HZ2.out]; simp, HF.out⟩
end Go.Proofs.Ytaianhhmmacblaa
