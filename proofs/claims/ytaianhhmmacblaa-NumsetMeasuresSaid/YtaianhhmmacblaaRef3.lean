import Derived.Test.YtaianhhmmacblaaRelOps
import Derived.Test.YtaianhhmmacblaaMath0
import Derived.Test.YtaianhhmmacblaaLeaf
/-
  The reference's gaps, and of.
-/
namespace Go.Proofs.Ytaianhhmmacblaa
open Go.RowKit

set_option maxRecDepth 100000 in
set_option maxHeartbeats 2000000 in
theorem gapsR_any (w : World) (A : Option Addr) (c : Nat) (l : List Sp) (lo0 hi0 : Int) (h1 : SlAt w w.heap.size A l) (hl : l.length ≤ 100000000) (hb : Bd l) (hlo : -4100000000000000000 ≤ lo0) (hlo' : lo0 ≤ 4100000000000000000) :
    Calls Try.prog 73 #[.slice A l.length c, .int .i64 lo0, .int .i64 hi0] w fun e w' => ∃ r, e = .returned r ∧ SpAt w' r (gapsR l lo0 hi0) ∧ Ext w w' := by
  go_enter Try.func73, Try.ntmps73
  go_wp2
  go_loopw [1, 7, 12] (fun lv v i wr => ∃ (k : Nat) (x : Int) (out : List Sp), k ≤ l.length ∧ i = .int .i64 k ∧ lv = .int .i64 x ∧ Hid (gfold (l.take k) lo0 = (out, x)) ∧ Own wr w.heap.size v out ∧ Ext w wr) (fun _ _ i _ => l.length - (intOf i).toNat)
  case atStart => exact ⟨0, lo0, [], Nat.zero_le _, rfl, rfl, rfl, Own.nil _ _, Ext.refl _⟩
  case round =>
    obtain ⟨k, x, out, hk, rfl, rfl, Hst, hown, hE⟩ := hrel
    have hsz := hE.size
    obtain ⟨hx1, hx2, hlen⟩ := gfold_bd l lo0 hb hlo hlo' k Hst.out
    by_cases hlt : k < l.length
    · obtain ⟨b, off, rfl, hbB, hc0, hc1⟩ := h1.at_ hlt
      have hd0 := (hE.cell ⟨b, off + k * 2, none⟩ hbB).trans hc0
      have hd1 := (hE.cell ⟨b, off + k * 2 + 1, none⟩ hbB).trans hc1
      have hstep := gfold_take l lo0 k hlt
      rw [Hst.out] at hstep
      obtain ⟨s1, s2, s3, s4⟩ := hb.get hlt
      clear hc0 hc1
      generalize l[k] = s at *
      obtain ⟨a, z⟩ := s
      simp only at hd0 hd1 s1 s2 s3 s4
      by_cases hlta : x < a
      · have hres : gstep (out, x) (a, z) = (out ++ [(x, a - 1)], z + 1) := by unfold gstep; rw [if_pos hlta]
        have Hs := Lib.hid (hstep.trans hres)
        clear hstep hres
        go_wp2_with (at_builtin; refine app_one rfl _ _ rfl w.heap.size _ out _ x (a - 1) rfl ((hown.alloc _).alloc _) rfl (cell_two0 _ _ _ _) (cell_two1 _ _ _ _) (by omega) (by simp; omega) ?_)
        intro v' w1 hown1 hB1 hg1
        have hE1 : Ext w w1 := Below.trans (B := w.heap.size) ((hE.alloc _).alloc _) hB1
        have hxb : Blk2 w1 wr.heap.size (.int .i64 a) (.int .i64 z) :=
          (hg1 wr.heap.size (by first | omega | (simp; omega)) (fun e => by have := (hown.lt _ e).2; omega)).trans ((Blk2.new wr _ _).alloc _)
        have hd1b := hxb.cell1
        clear hB1
        go_wp2
        go_roundw
        case rel => exact ⟨k + 1, z + 1, _, by omega, by go_num, rfl, Hs, hown1, hE1⟩
        case measure => simp [intOf]; omega
      · have hres : gstep (out, x) (a, z) = (out, z + 1) := by unfold gstep; rw [if_neg hlta]
        have Hs := Lib.hid (hstep.trans hres)
        clear hstep hres
        go_wp2
        go_roundw
        case rel => exact ⟨k + 1, z + 1, _, by omega, by go_num, rfl, Hs, hown.alloc _, hE.alloc _⟩
        case measure => simp [intOf]; omega
    · have hkl : k = l.length := by omega
      subst hkl
      have hst := Hst.out
      rw [List.take_of_length_le (Nat.le_refl _)] at hst
      by_cases hle : x ≤ hi0
      · have Hfin : Hid (gapsR l lo0 hi0 = out ++ [(x, hi0)]) := Lib.hid (by unfold gapsR; rw [hst, if_pos hle])
        clear hst
        go_wp2_with (at_builtin; refine app_one rfl _ _ rfl w.heap.size _ out _ x hi0 rfl (hown.alloc _) rfl (cell_one0 _ _ _) (cell_one1 _ _ _) (by omega) (by simp; omega) ?_)
        intro v' w1 hown1 hB1 _
        have hE1 : Ext w w1 := Below.trans (B := w.heap.size) (hE.alloc _) hB1
        obtain ⟨A3, c3, rfl⟩ := hown1.form
        go_wp2
        go_ret
        refine ⟨_, rfl, ?_, hE1⟩
        rw [Hfin.out]
        exact ⟨A3, c3, rfl, hown1.at_.2⟩
      · have Hfin : Hid (gapsR l lo0 hi0 = out) := Lib.hid (by unfold gapsR; rw [hst, if_neg hle])
        clear hst
        obtain ⟨A3, c3, rfl⟩ := hown.form
        go_wp2
        go_ret
        refine ⟨_, rfl, ?_, hE⟩
        rw [Hfin.out]
        exact ⟨A3, c3, rfl, hown.at_.2⟩

set_option maxRecDepth 100000 in
set_option maxHeartbeats 600000 in
theorem ofR_any (w : World) (A A' : Option Addr) (c c' : Nat) (li lf : List Sp) (h1 : SlAt w w.heap.size A li) (h2 : SlAt w w.heap.size A' lf) (hl : lf.length ≤ 100000000)
    (hb : ∀ s ∈ lf, -4000000000000000 ≤ s.1 ∧ s.1 ≤ 4000000000000000 ∧ -4000000000000000 ≤ s.2 ∧ s.2 ≤ 4000000000000000) :
    Calls Try.prog 70 #[.slice A li.length c, .slice A' lf.length c'] w fun e w' => ∃ r, e = .returned r ∧ NmAt w' r ⟨li, lf.map unrankS⟩ ∧ Ext w w' := by
  go_enter Try.func70, Try.ntmps70
  go_wp2
  go_loopw [12] (fun i wr => ∃ (k : Nat) (v : Value), k ≤ lf.length ∧ i = .int .i64 k ∧ Own wr (w.heap.size + 2) v ((lf.take k).map unrankS) ∧ BlkN wr w.heap.size (.slice none 0 0) (.slice none 0 0) ∧
    BlkN wr (w.heap.size + 1) (.slice A li.length c) v ∧ Ext w wr ∧ w.heap.size + 2 ≤ wr.heap.size) (fun i _ => lf.length - (intOf i).toNat)
  case atStart => exact ⟨0, .slice none 0 0, Nat.zero_le _, rfl, Own.nil _ _, (BlkN.new _ _ _).alloc _, by have := BlkN.new (w.alloc (.cells #[.slice none 0 0, .slice none 0 0] 24)) (.slice A li.length c) (.slice none 0 0); simpa using this, ((Ext.refl _).alloc _).alloc _, by simp⟩
  case round =>
    obtain ⟨k, v, hk, rfl, hown, hb0, hb1, hE, hsz⟩ := hrel
    by_cases hlt : k < lf.length
    · obtain ⟨b, off, rfl, hbB, hc0, hc1⟩ := h2.at_ hlt
      have hd0 := (hE.cell ⟨b, off + k * 2, none⟩ hbB).trans hc0
      have hd1 := (hE.cell ⟨b, off + k * 2 + 1, none⟩ hbB).trans hc1
      have hmap := map_take unrankS lf k hlt
      have hbk := hb lf[k] (List.getElem_mem hlt)
      have hlen : ((lf.take k).map unrankS).length ≤ k := by rw [List.length_map, List.length_take]; omega
      clear hc0 hc1
      generalize lf[k] = s at *
      generalize (lf.take k).map unrankS = acc at *
      obtain ⟨x, y⟩ := s
      simp only [unrankS] at hd0 hd1 hbk hmap
      have Hm := Lib.hid hmap
      clear hmap
      have e0 := hb1.cell0
      have e1 := hb1.cell1
      go_wp2
      have hW1 := ((hb1.alloc (.cells #[.int .i64 x, .int .i64 y] 45)))
      have hW2 := Blk2.new wr (.int .i64 x) (.int .i64 y)
      obtain ⟨W, hW⟩ : ∃ W, W = wr.alloc (.cells #[.int .i64 x, .int .i64 y] 45) := ⟨_, rfl⟩
      rw [← hW] at hW1 hW2 ⊢
      have f1 := fun w (h : Ext W w) => (hW1.ext h).cell1
      have f2 := fun w (h : Ext W w) => (hW2.ext h).cell0
      have f3 := fun w (h : Ext W w) => (hW2.ext h).cell1
      have Hown := Lib.hid hown
      have Hhb0 := Lib.hid hb0
      have Hhb1 := Lib.hid hb1
      have HW := Lib.hid hW
      have HW1 := Lib.hid hW1
      have HW2 := Lib.hid hW2
      clear hown hb0 hb1 hW hW1 hW2 h1 h2 hd0 hd1 e0 e1
      refine wp_region_rel (E := Ext) (m := 10) (n := 30) (by kernel_rfl) rfl (by decide) rfl (by kernel_rfl) (by kernel_rfl) ((Ext.refl _).drawn _) Ext.refl (fun _ _ _ => Ext.trans) ?_
      simp only [List.take_succ_cons, List.take_zero]
      apply rel_pure
      · intro a w K' hE he hK
        simp [Oper.looksAt, Op.operands] at he
        go_simp
        exact hK _ rfl
      apply rel_pure
      · intro a w K' hE he hK
        simp [Oper.looksAt, Op.operands, upd] at he
        go_simp
        exact hK _ rfl
      apply rel_pure
      · intro a w K' hE he hK
        simp [Oper.looksAt, Op.operands, upd] at he
        go_simp
        exact hK _ rfl
      apply rel_pure
      · intro a w K' hE he hK
        simp [Oper.looksAt, Op.operands, upd] at he
        go_simp
        exact hK _ rfl
      apply rel_pure
      · intro a w K' hE he hK
        simp [Oper.looksAt, Op.operands, Call.operands, upd] at he
        go_simp
        refine (unrank_any _ _ (by omega) (by omega)).mono ?_
        rintro e w' ⟨rfl, rfl⟩
        exact hK _ rfl
      apply rel_pure
      · intro a w K' hE he hK
        simp [Oper.looksAt, Op.operands, upd] at he
        go_simp
        exact hK _ rfl
      apply rel_pure
      · intro a w K' hE he hK
        simp [Oper.looksAt, Op.operands, upd] at he
        go_simp
        exact hK _ rfl
      apply rel_pure
      · intro a w K' hE he hK
        simp [Oper.looksAt, Op.operands, Call.operands, upd] at he
        go_simp
        refine (unrank_any _ _ (by omega) (by omega)).mono ?_
        rintro e w' ⟨rfl, rfl⟩
        exact hK _ rfl
      apply rel_pure
      · intro a w K' hE he hK
        simp [Oper.looksAt, Op.operands, upd] at he
        go_simp
        exact hK _ rfl
      refine rel_any (Sl1 (unrankI x) (unrankI y)) (Sl1.stable _ _) ?_ ?_
      · intro a w K' hE he hK
        simp [Oper.looksAt, Op.operands, upd] at he
        go_simp
        exact hK _ _ ((Ext.refl _).alloc _) ⟨_, rfl, Blk2.new _ _ _⟩
      refine relSeq_nil fun w3 hE3 => ?_
      simp only [fin, List.nil_append, List.cons_append]
      rintro _ rfl _ rfl _ rfl _ rfl _ rfl _ rfl _ rfl _ rfl _ rfl _ ⟨g, rfl, hg⟩
      have hown := Hown.out
      have hW := HW.out
      subst hW
      have hown3 := (hown.alloc (.cells #[.int .i64 x, .int .i64 y] 45)).ext hE3
      have hb13 := HW1.out.ext hE3
      have hb03 := (Hhb0.out.alloc (.cells #[.int .i64 x, .int .i64 y] 45)).ext hE3
      have hgl := hg.lt
      have hs3 := hE3.size
      simp at hs3
      have g0 := hg.cell0
      have g1 := hg.cell1
      clear HW HW1 HW2 Hhb0 Hhb1 Hown f1 f2 f3
      simp only [Act.put]
      simp
      refine app_one rfl _ _ rfl (w.heap.size + 2) _ acc g (unrankI x) (unrankI y) rfl hown3 rfl g0 g1 (by omega) (by omega) ?_
      intro v' w4 hown4 hB4 _
      have hs4 := hB4.size
      have hb14 := hb13.below hB4 (by omega)
      have hb04 := hb03.below hB4 (by omega)
      have hE4 : Ext w w4 := Below.trans (B := w.heap.size) (Below.trans (B := w.heap.size) (hE.alloc (.cells #[.int .i64 x, .int .i64 y] 45)) (hE3.below (by show w.heap.size ≤ (wr.alloc _).heap.size; rw [World.size_alloc]; omega))) (hB4.mono (by omega))
      have hlt4 : w.heap.size + 1 < w4.heap.size := by omega
      have e1 := hb14.cell1
      have e2 := hb14.frozen0 1
      have hown5 : ∀ u, Own (w4.setCell ⟨w.heap.size + 1, 1, none⟩ u) (w.heap.size + 2) v' ((lf.take (k + 1)).map unrankS) := fun u =>
        own_cast (hown4.setOther (p := ⟨w.heap.size + 1, 1, none⟩) (fun e => by have := (hown4.lt (w.heap.size + 1) e).1; omega) u) Hm.out.symm
      have hb15 := hb14.set1 v'
      have hb05 := hb04.far (p := ⟨w.heap.size + 1, 1, none⟩) (by simp) v'
      have hE5 := hE4.setCell (p := ⟨w.heap.size + 1, 1, none⟩) (Nat.le_succ _) v'
      have hown6 := hown5 v'
      obtain ⟨A6, c6, rfl⟩ : ∃ A c, v' = .slice A (acc.length + 1) c := by
        obtain ⟨A6, c6, e⟩ := hown4.form
        exact ⟨A6, c6, by rw [e]; simp⟩
      clear hown4 hB4 hb13 hb03 hown3 hb14 hb04 hE4 hown5 g0 g1 hg hE3
      go_wp2
      apply_assumption
      go_wp2
      go_roundw
      case rel => exact ⟨k + 1, _, by omega, by go_num, hown6, hb05, hb15, hE5, by simp [World.setCell]; omega⟩
      case measure => simp [intOf]; omega
    · have hkl : k = lf.length := by omega
      subst hkl
      rw [List.take_of_length_le (Nat.le_refl _)] at hown
      obtain ⟨A6, c6, rfl⟩ : ∃ A c, v = .slice A lf.length c := by
        obtain ⟨A6, c6, e⟩ := hown.form
        exact ⟨A6, c6, by rw [e]; simp⟩
      have e0 := hb1.cell0
      have e1 := hb1.cell1
      have z0 := hb0.cell0
      have z1 := hb0.cell1
      have z2 := hb0.frozen0
      have z3 := fun u => (hb0.set0 u).frozen0 1
      have z4 := fun u => (hb0.set0 u).cell1
      have hat := hown.at_.2
      have h1' := h1.below hE
      have hat2 := (hat.setOther (p := ⟨w.heap.size, 0, none⟩) z0 (by simp) (.slice A li.length c)).setOther (p := ⟨w.heap.size, 1, none⟩) (z4 _) (by simp) (.slice A6 lf.length c6)
      have h12 := (h1'.setCell (p := ⟨w.heap.size, 0, none⟩) (Nat.le_refl _) (.slice A li.length c)).setCell (p := ⟨w.heap.size, 1, none⟩) (Nat.le_refl _) (.slice A6 lf.length c6)
      have hE2 := (hE.setCell (p := ⟨w.heap.size, 0, none⟩) (Nat.le_refl _) (.slice A li.length c)).setCell (p := ⟨w.heap.size, 1, none⟩) (Nat.le_refl _) (.slice A6 lf.length c6)
      have hb2 := (hb0.set0 (.slice A li.length c)).set1 (.slice A6 lf.length c6)
      have y0 := hb2.cell0
      have y1 := hb2.cell1
      go_wp2
      refine bodyPost_ret (v := .agg #[.slice A li.length c, .slice A6 lf.length c6]) (by simp [results, Try.results70, go_sem, y0, y1]) rfl ⟨_, rfl, ⟨A, c, A6, c6, ?_, ?_, ?_⟩, hE2⟩
      · simp
      · exact h12.mono (by simp [World.setCell]; omega)
      · exact hat2.mono (by simp [World.setCell])
theorem gapsR_v (w : World) (v : Value) (l : List Sp) (lo0 hi0 : Int) (h : SpAt w v l) (hl : l.length ≤ 100000000) (hb : Bd l) (hlo : -4100000000000000000 ≤ lo0) (hlo' : lo0 ≤ 4100000000000000000) :
    Calls Try.prog 73 #[v, .int .i64 lo0, .int .i64 hi0] w fun e w' => ∃ r, e = .returned r ∧ SpAt w' r (gapsR l lo0 hi0) ∧ Ext w w' := by
  obtain ⟨A, c, rfl, h1⟩ := h
  exact gapsR_any w A c l lo0 hi0 h1 hl hb hlo hlo'
theorem ofR_v (w : World) (v v' : Value) (li lf : List Sp) (h : SpAt w v li) (h' : SpAt w v' lf) (hl : lf.length ≤ 100000000)
    (hb : ∀ s ∈ lf, -4000000000000000 ≤ s.1 ∧ s.1 ≤ 4000000000000000 ∧ -4000000000000000 ≤ s.2 ∧ s.2 ≤ 4000000000000000) :
    Calls Try.prog 70 #[v, v'] w fun e w' => ∃ r, e = .returned r ∧ NmAt w' r ⟨li, lf.map unrankS⟩ ∧ Ext w w' := by
  obtain ⟨A, c, rfl, h1⟩ := h
  obtain ⟨A', c', rfl, h2⟩ := h'
  exact ofR_any w A A' c c' li lf h1 h2 hl hb
end Go.Proofs.Ytaianhhmmacblaa
