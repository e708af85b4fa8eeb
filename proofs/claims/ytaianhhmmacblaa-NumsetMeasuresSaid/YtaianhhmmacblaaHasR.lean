import Derived.Test.YtaianhhmmacblaaSets3
import Derived.Test.YtaianhhmmacblaaRef7
/-
  The reference's Has.
-/
namespace Go.Proofs.Ytaianhhmmacblaa
open Go.RowKit

theorem any_take (p : Int × Int → Bool) (l : List (Int × Int)) (k : Nat) (hk : k < l.length) : (l.take (k + 1)).any p = ((l.take k).any p || p l[k]) := by
  rw [List.take_succ_eq_append_getElem hk, List.any_append]
  simp

set_option maxRecDepth 100000 in
set_option maxHeartbeats 1000000 in
theorem hasR_any (w : World) (v0 : Value) (d : Nm) (h0 : NmAt w v0 d) (u : Int) (hs : Sz 100000000 d) (hu : -9223372036854775808 ≤ u ∧ u ≤ 9223372036854775807) :
    Calls Try.prog 37 #[v0, .int .i64 u] w fun e w' => e = .returned (.bool (hasL d u)) ∧ Ext w w' := by
  have g0 := h0
  obtain ⟨A0, c0, B0, e0, rfl, x0, y0⟩ := g0
  have b0 : BlkN (w.alloc (.cells #[.slice A0 d.ints.length c0, .slice B0 d.fracs.length e0] 24)) w.heap.size (.slice A0 d.ints.length c0) (.slice B0 d.fracs.length e0) := by simpa using BlkN.new w (.slice A0 d.ints.length c0) (.slice B0 d.fracs.length e0)
  have hEW : Ext w (w.alloc (.cells #[.slice A0 d.ints.length c0, .slice B0 d.fracs.length e0] 24)) := (Ext.refl w).alloc _
  have k0 := h0.ext hEW
  have f0a := fun w' (h : Ext (w.alloc (.cells #[.slice A0 d.ints.length c0, .slice B0 d.fracs.length e0] 24)) w') => (b0.ext h).cell0
  have f0b := fun w' (h : Ext (w.alloc (.cells #[.slice A0 d.ints.length c0, .slice B0 d.fracs.length e0] 24)) w') => (b0.ext h).cell1
  have K0 := Lib.hid k0
  have si0 : SpAt (w.alloc (.cells #[.slice A0 d.ints.length c0, .slice B0 d.fracs.length e0] 24)) (.slice A0 d.ints.length c0) d.ints := ⟨A0, c0, rfl, x0.ext hEW⟩
  have sf0 : SpAt (w.alloc (.cells #[.slice A0 d.ints.length c0, .slice B0 d.fracs.length e0] 24)) (.slice B0 d.fracs.length e0) d.fracs := ⟨B0, e0, rfl, y0.ext hEW⟩
  have SI0 := Lib.hid si0
  have SF0 := Lib.hid sf0
  clear si0 sf0
  have HE := Lib.hid hEW
  clear hEW b0 h0 k0 x0 y0
  go_enter Try.func37, Try.ntmps37
  have hdef : Hid (hasL d u = (validB u && if u % 10000 = 0 then insideB d.ints (u / 10000) else insideB d.fracs u)) := Lib.hid rfl
  have hval := fun W => validR_any u W
  have hwh := fun W => wholeR_any u W
  have hq0 := f0a _ (Ext.refl _)
  have hq1 := f0b _ (Ext.refl _)
  clear f0a f0b
  generalize hWn : w.alloc (.cells #[.slice A0 d.ints.length c0, .slice B0 d.fracs.length e0] 24) = W at *
  by_cases hv : validB u = true
  · rw [hv] at hval hdef
    have hdv := tdiv_whole u 10000
    have hfe : ∃ b, decide (u % 10000 = 0) = b := ⟨_, rfl⟩
    obtain ⟨b, hb⟩ := hfe
    rw [hb] at hwh
    cases b
    ·
      have hdef2 : Hid (hasL d u = insideB d.fracs u) := Lib.hid (by rw [hdef.out, if_neg (by simpa using hb)]; simp)
      
      obtain ⟨A8, c8, r8, s8⟩ := SF0.out
      injection r8 with r8a r8b r8c
      subst r8a r8c
      have hlen : d.fracs.length ≤ 100000000 := hs.2
      clear hdef hb hv SI0 SF0 K0 hs r8b
      generalize hL : d.fracs = l at *
      clear hL
      go_wp2_with (first | (go_at_call 17; refine (hval _).mono ?_; rintro e w' ⟨rfl, rfl⟩) | (go_at_call 72; refine (hwh _).mono ?_; rintro e w' ⟨rfl, rfl⟩))
      clear hval hwh hq0 hq1 hWn
      go_loopw [8, 23] (fun _ i wr => ∃ k : Nat, k ≤ l.length ∧ i = .int .i64 k ∧ Hid ((l.take k).any (inB u) = false) ∧ Ext W wr) (fun _ i _ => l.length - (intOf i).toNat)
      case atStart => exact ⟨0, Nat.zero_le _, rfl, rfl, Ext.refl _⟩
      case round =>
        obtain ⟨k, hk, rfl, Hx, hE⟩ := hrel
        by_cases hlt : k < l.length
        · have hst := any_take (inB u) l k hlt
          rw [Hx.out, Bool.false_or] at hst
          have hin : inB u l[k] = true → Hid (insideB l u = true) := fun h => Lib.hid (List.any_eq_true.2 ⟨_, List.getElem_mem hlt, h⟩)
          obtain ⟨b, off, rfl, hbB, hc0, hc1⟩ := s8.at_ hlt
          have hd0 := (hE.cell ⟨b, off + k * 2, none⟩ hbB).trans hc0
          have hd1 := (hE.cell ⟨b, off + k * 2 + 1, none⟩ hbB).trans hc1
          clear hc0 hc1 s8
          generalize l[k] = s at *
          obtain ⟨lo, hi⟩ := s
          simp only [inB] at hd0 hd1 hst hin
          by_cases h1 : lo ≤ u
          · by_cases h2 : u ≤ hi
            · have Hin := hin (by simp [h1, h2])
              clear hin hst
              go_wp2
              go_ret
              exact ⟨by rw [hdef2.out, Hin.out] <;> rfl, HE.out.trans (hE.alloc _)⟩
            · have Hst : Hid ((l.take (k + 1)).any (inB u) = false) := Lib.hid (hst.trans (by simp [h2]))
              clear hin hst
              go_wp2
              go_roundw
              case rel => exact ⟨k + 1, by omega, by go_num, Hst, hE.alloc _⟩
              case measure => simp [intOf]; omega
          · have Hst : Hid ((l.take (k + 1)).any (inB u) = false) := Lib.hid (hst.trans (by simp [h1]))
            clear hin hst
            go_wp2
            go_roundw
            case rel => exact ⟨k + 1, by omega, by go_num, Hst, hE.alloc _⟩
            case measure => simp [intOf]; omega
        · have hkl : k = l.length := by omega
          subst hkl
          have hx2 := Hx.out
          rw [List.take_of_length_le (Nat.le_refl _)] at hx2
          have HX : Hid (insideB l u = false) := Lib.hid hx2
          clear hx2 Hx
          go_wp2
          go_ret
          exact ⟨by rw [hdef2.out, HX.out] <;> rfl, HE.out.trans hE⟩
    ·
      have hdef2 : Hid (hasL d u = insideB d.ints (u.tdiv 10000)) := Lib.hid (by rw [hdef.out, if_pos (by simpa using hb), ← hdv (by simpa using hb)]; simp)
      have hdv2 := hdv (by simpa using hb)
      clear hdv
      have hub : -9223372036854775808 ≤ u.tdiv 10000 ∧ u.tdiv 10000 ≤ 9223372036854775807 := tdiv_bound u 10000 (by decide) _ _ (by decide) (by decide) hu.1 hu.2
      obtain ⟨A8, c8, r8, s8⟩ := SI0.out
      injection r8 with r8a r8b r8c
      subst r8a r8c
      have hlen : d.ints.length ≤ 100000000 := hs.1
      clear hdef hb hv SI0 SF0 K0 hs r8b
      generalize hL : d.ints = l at *
      clear hL
      go_wp2_with (first | (go_at_call 17; refine (hval _).mono ?_; rintro e w' ⟨rfl, rfl⟩) | (go_at_call 72; refine (hwh _).mono ?_; rintro e w' ⟨rfl, rfl⟩))
      clear hval hwh hq0 hq1 hWn
      go_loopw [8, 23] (fun _ i wr => ∃ k : Nat, k ≤ l.length ∧ i = .int .i64 k ∧ Hid ((l.take k).any (inB (u.tdiv 10000)) = false) ∧ Ext W wr) (fun _ i _ => l.length - (intOf i).toNat)
      case atStart => exact ⟨0, Nat.zero_le _, rfl, rfl, Ext.refl _⟩
      case round =>
        obtain ⟨k, hk, rfl, Hx, hE⟩ := hrel
        by_cases hlt : k < l.length
        · have hst := any_take (inB (u.tdiv 10000)) l k hlt
          rw [Hx.out, Bool.false_or] at hst
          have hin : inB (u.tdiv 10000) l[k] = true → Hid (insideB l (u.tdiv 10000) = true) := fun h => Lib.hid (List.any_eq_true.2 ⟨_, List.getElem_mem hlt, h⟩)
          obtain ⟨b, off, rfl, hbB, hc0, hc1⟩ := s8.at_ hlt
          have hd0 := (hE.cell ⟨b, off + k * 2, none⟩ hbB).trans hc0
          have hd1 := (hE.cell ⟨b, off + k * 2 + 1, none⟩ hbB).trans hc1
          clear hc0 hc1 s8
          generalize l[k] = s at *
          obtain ⟨lo, hi⟩ := s
          simp only [inB] at hd0 hd1 hst hin
          by_cases h1 : lo ≤ u.tdiv 10000
          · by_cases h2 : u.tdiv 10000 ≤ hi
            · have Hin := hin (by simp [h1, h2])
              clear hin hst
              go_wp2
              go_ret
              exact ⟨by rw [hdef2.out, Hin.out] <;> rfl, HE.out.trans (hE.alloc _)⟩
            · have Hst : Hid ((l.take (k + 1)).any (inB (u.tdiv 10000)) = false) := Lib.hid (hst.trans (by simp [h2]))
              clear hin hst
              go_wp2
              go_roundw
              case rel => exact ⟨k + 1, by omega, by go_num, Hst, hE.alloc _⟩
              case measure => simp [intOf]; omega
          · have Hst : Hid ((l.take (k + 1)).any (inB (u.tdiv 10000)) = false) := Lib.hid (hst.trans (by simp [h1]))
            clear hin hst
            go_wp2
            go_roundw
            case rel => exact ⟨k + 1, by omega, by go_num, Hst, hE.alloc _⟩
            case measure => simp [intOf]; omega
        · have hkl : k = l.length := by omega
          subst hkl
          have hx2 := Hx.out
          rw [List.take_of_length_le (Nat.le_refl _)] at hx2
          have HX : Hid (insideB l (u.tdiv 10000) = false) := Lib.hid hx2
          clear hx2 Hx
          go_wp2
          go_ret
          exact ⟨by rw [hdef2.out, HX.out] <;> rfl, HE.out.trans hE⟩
  · have hv : validB u = false := by simpa using hv
    rw [hv] at hval hdef
    go_wp2_with (first | (go_at_call 17; refine (hval _).mono ?_; rintro e w' ⟨rfl, rfl⟩))
    go_ret
    exact ⟨by rw [hdef.out] <;> rfl, HE.out⟩

end Go.Proofs.Ytaianhhmmacblaa
