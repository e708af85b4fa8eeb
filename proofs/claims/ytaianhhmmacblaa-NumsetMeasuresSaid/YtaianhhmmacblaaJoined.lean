import Derived.Test.YtaianhhmmacblaaSort1
import Derived.Test.YtaianhhmmacblaaMath0
import Derived.Test.YtaianhhmmacblaaLeaf
/-
  The program's joined.
-/
namespace Go.Proofs.Ytaianhhmmacblaa
open Go.RowKit

theorem below_setRow' (w : World) (B g : Nat) (cs : Array Value) (h : B ≤ g) : Below B w (w.setRow g cs) := ⟨rfl, rfl, rfl, by simp [World.setRow], fun k hk => setRow_other w g k cs (by omega)⟩
theorem cell_dq0 (w : World) (n : Nat) (o : Obj) (x y : Value) : (((w.alloc o).drewN n).alloc (.cells #[x, y] 45)).cell? ⟨w.heap.size + 1, 0, none⟩ = some x := by
  have := (Blk2.new ((w.alloc o).drewN n) x y).cell0
  have e : ((w.alloc o).drewN n).heap.size = w.heap.size + 1 := by show (w.alloc o).heap.size = _; simp
  rwa [e] at this
theorem cell_dq1 (w : World) (n : Nat) (o : Obj) (x y : Value) : (((w.alloc o).drewN n).alloc (.cells #[x, y] 45)).cell? ⟨w.heap.size + 1, 1, none⟩ = some y := by
  have := (Blk2.new ((w.alloc o).drewN n) x y).cell1
  have e : ((w.alloc o).drewN n).heap.size = w.heap.size + 1 := by show (w.alloc o).heap.size = _; simp
  rwa [e] at this
theorem size_dq (w : World) (n : Nat) (o o' : Obj) : (((w.alloc o).drewN n).alloc o').heap.size = w.heap.size + 2 := by
  show (((w.alloc o).drewN n).heap.push o').size = _
  rw [Array.size_push]
  show (w.heap.push o).size + 1 = _
  rw [Array.size_push]
theorem spc_set (pre : List Sp) (a b c : Int) : (spc (pre ++ [(a, b)])).set (pre.length * 2 + 1) (.int .i64 c) = spc (pre ++ [(a, c)]) := by
  rw [spc_append, spc_append, List.set_append_right _ _ (by rw [spc_length]; omega), spc_length, show pre.length * 2 + 1 - pre.length * 2 = 1 by omega]
  rfl
theorem Own.setLast {w : World} {base g n cap : Nat} {pre : List Sp} {a b : Int} (h : Own w base (.slice (some ⟨g, 0, none⟩) n cap) (pre ++ [(a, b)])) (c : Int) :
    Own (w.setCell ⟨g, pre.length * 2 + 1, none⟩ (.int .i64 c)) base (.slice (some ⟨g, 0, none⟩) n cap) (pre ++ [(a, c)]) := by
  have hn := h.at_.1
  subst hn
  have h1 := (World.ownsRow.stored h (pre.length * 2 + 1) (.int .i64 c)).1
  unfold Own
  rw [← spc_set pre a b c]
  simpa using h1
theorem Own.at0 {w : World} {base : Nat} {v : Value} {pre : List Sp} {a b : Int} (h : Own w base v (pre ++ [(a, b)])) : ∃ g cap, v = .slice (some ⟨g, 0, none⟩) (pre.length + 1) cap ∧ base ≤ g ∧ g < w.heap.size ∧
    w.cell? ⟨g, pre.length * 2 + 1, none⟩ = some (.int .i64 b) ∧ w.frozen? ⟨g, pre.length * 2 + 1, none⟩ = false := by
  rcases h.2 with ⟨h1, h2⟩ | ⟨g, cap, cur, hv, hb, hg, hnc, hcm, hcs, ht⟩
  · simp at h2
  · refine ⟨g, cap, by rw [hv]; simp, hb, ?_, ?_, by simp [World.frozen?, hg]⟩
    · rcases Nat.lt_or_ge g w.heap.size with hlt | hge
      · exact hlt
      · rw [Array.getElem?_eq_none hge] at hg; cases hg
    · have hh := (spc_get (pre ++ [(a, b)]) pre.length (a, b) (by simp)).2
      rw [← ht] at hh
      have : cur.toList[pre.length * 2 + 1]? = some (.int .i64 b) := by
        rw [List.getElem?_take] at hh
        split at hh
        · exact hh
        · cases hh
      simp [World.cell?, hg]
      simpa using this
set_option maxRecDepth 100000 in
set_option maxHeartbeats 1000000 in
theorem joined_whole (w : World) (v : Value) (l : List Sp) (h : SpAt w v l) (hl : l.length ≤ 10000000) (hb : Bdd l) :
    Calls Try.prog 69 #[v, .func (.func 65) #[] #[]] w fun e w' => ∃ r, e = .returned r ∧ (∃ l' : List Sp, l'.Perm l ∧ l'.Pairwise (fun a b => a.1 ≤ b.1) ∧ SpAt w' r (joinL (fun u => u + 1) l')) ∧ Ext w w' := by
  obtain ⟨A, c, rfl, hA⟩ := h
  obtain ⟨i0, hi0, hz0, hz1, hz2⟩ := info_parts info_span
  have hmk := run_make (P := Try.prog) w 22 45 i0 _ Try.underlying22 hi0 hz0 .i64 .i64 (l.length : Int) (l.length : Int) (by omega) (Int.le_refl _) (by rw [hz2]; omega) (by omega)
  simp only [Int.toNat_natCast, hz1] at hmk
  obtain ⟨cur, hcur⟩ : ∃ cur, cur = madeCells (Value.agg #[.int .i64 0, .int .i64 0]).cells (l.length * 2) := ⟨_, rfl⟩
  rw [← hcur] at hmk
  have hcs : cur.size = l.length * 2 := by rw [hcur]; exact size_madeCells _ _
  have hg0 : (w.alloc (.cells cur 45)).heap[w.heap.size]? = some (.cells cur 45 (0, 0)) := heap_alloc_new w _
  have hcp := run_copy_all (w.alloc (.cells cur 45)) 3 w.heap.size l.length c w.heap.size l A cur hg0 hcs (hA.alloc (Nat.le_refl _) _)
  have hg1 := setRow_heap (w.alloc (.cells cur 45)) w.heap.size cur (spc l).toArray 45 (0, 0) hg0
  have hB1 : Below w.heap.size w ((w.alloc (.cells cur 45)).setRow w.heap.size (spc l).toArray) := Below.trans ((Ext.refl w).alloc _) (below_setRow' _ _ _ _ (Nat.le_refl _))
  generalize hW1 : (w.alloc (.cells cur 45)).setRow w.heap.size (spc l).toArray = W1 at hcp hg1 hB1
  have HW1 := Lib.hid hW1
  clear hW1 hcur hcs hi0 hz0 hz1 hz2 hg0
  have HG1 := Lib.hid hg1
  have HB1 := Lib.hid hB1
  clear hg1 hB1
  go_enter Try.func69, Try.ntmps69
  go_wp2_with fail
  refine (sortSp_any W1 w.heap.size l l.length HG1.out (by omega)).mono ?_
  rintro e w3 ⟨rfl, l', hp, hsrt, hs3, hB3⟩
  have hlen' : l.length = l'.length := hp.length_eq.symm
  have hb' : Bdd l' := fun s hs => hb s (hp.mem_iff.1 hs)
  have HB3 := Lib.hid (Below.trans HB1.out hB3)
  have HP := Lib.hid hp
  have HS := Lib.hid hsrt
  have hgl : w.heap.size + 1 ≤ w3.heap.size := by
    have h1 := hB3.size
    have h2 : w.heap.size < W1.heap.size := by
      rcases Nat.lt_or_ge w.heap.size W1.heap.size with h | h
      · exact h
      · have := HG1.out; rw [Array.getElem?_eq_none h] at this; cases this
    omega
  rw [hlen'] at hl
  simp only [hlen']
  clear hp hsrt hB3 hb hlen' hA HB1 HG1 HW1 hcp hmk
  go_wp2
  go_loopw [6, 9, 20] (fun v n i wr => ∃ k : Nat, k ≤ l'.length ∧ i = .int .i64 k ∧ Own wr w3.heap.size v (joinL (fun u => u + 1) (l'.take k)) ∧ Ext w3 wr) (fun _ _ i _ => l'.length - (intOf i).toNat)
  case atStart => exact ⟨0, Nat.zero_le _, rfl, Own.nil _ _, Ext.refl _⟩
  case round =>
    obtain ⟨k, hk, rfl, hown, hE⟩ := hrel
    have hlen : (joinL (fun u => u + 1) (l'.take k)).length ≤ k := Nat.le_trans (joinL_len _ _) (by rw [List.length_take]; omega)
    have hbo : Bdd (joinL (fun u => u + 1) (l'.take k)) := bdd_joinL (hb'.take k)
    by_cases hlt : k < l'.length
    · have hs := hb'.get hlt
      have hstep := joinL_take (fun u => u + 1) l' k hlt
      obtain ⟨b, off, he, hbB, hc0, hc1⟩ := hs3.at_ hlt
      injection he with he
      injection he with he1 he2 _
      subst he1 he2
      have hd0 := (hE.cell ⟨w.heap.size, 0 + k * 2, none⟩ (by simp only; omega)).trans hc0
      have hd1 := (hE.cell ⟨w.heap.size, 0 + k * 2 + 1, none⟩ (by simp only; omega)).trans hc1
      simp only [Nat.zero_add] at hd0 hd1
      clear hc0 hc1 hs3
      generalize l'[k] = s at *
      generalize joinL (fun u => u + 1) (l'.take k) = out at *
      have Hstep := Lib.hid hstep
      clear hstep
      obtain ⟨lo, hi⟩ := s
      simp only at hd0 hd1 hs
      obtain ⟨s1, s2, s3, s4⟩ := hs
      have hsz := hE.size
      rcases List.eq_nil_or_concat out with rfl | ⟨pre, ⟨tlo, thi⟩, rfl⟩
      · obtain ⟨A', c', rfl⟩ := hown.form
        simp only [List.length_nil]
        go_wp2_with fail
        go_quiet (fail)
        go_wp2_with (at_builtin; refine app_one rfl _ _ rfl w3.heap.size _ [] _ lo hi rfl (((hown.alloc _).ext (Ext.drewN (Ext.refl _) _)).alloc _) rfl (cell_dq0 _ _ _ _ _) (cell_dq1 _ _ _ _ _) (by simp) (by rw [size_dq]; omega) ?_)
        intro v' w1 hown1 hB1 _
        have hE1 : Ext w3 w1 := Below.trans (B := w3.heap.size) (((hE.alloc _).drewN _).alloc _) hB1
        clear hB1
        go_wp2
        go_roundw
        case rel => exact ⟨k + 1, by omega, by go_num, by rw [Hstep.out]; exact hown1, hE1⟩
        case measure => simp [intOf]; omega
      · rw [List.concat_eq_append] at *
        obtain ⟨g, cap, rfl, hgb, hgl2, hgc, hgf⟩ := hown.at0
        have ht := hbo (tlo, thi) (by simp)
        simp only at ht
        obtain ⟨t1, t2, t3, t4⟩ := ht
        have hpl : pre.length + 1 ≤ k := by simpa using hlen
        clear hbo hlen
        have hgca : ∀ o, (wr.alloc o).cell? ⟨g, pre.length * 2 + 1, none⟩ = some (.int .i64 thi) := fun o => (World.cell?_alloc_lt wr o _ hgl2).trans hgc
        have hbx := Blk2.new wr (.int .i64 lo) (.int .i64 hi)
        have HBX := Lib.hid hbx
        clear hbx
        have hjs := jstep_snoc (fun u => u + 1) pre (tlo, thi) (lo, hi)
        simp only at hjs
        have hwr : IntKind.i64.wrap (pre.length : Int) = pre.length := by rw [IntKind.wrap_i64]; omega
        have hix1 : (pre.length : Int) < (pre.length : Int) + 1 := by omega
        have hix2 : (pre.length : Int) < ((pre.length + 1 : Nat) : Int) := by omega
        have hix3 : (0 : Int) ≤ (pre.length : Int) := by omega
        have hdec : decide ((0 : Int) < (pre.length : Int) + 1) = true := decide_eq_true (by omega)
        by_cases hc : lo ≤ thi + 1
        · rw [if_pos hc] at hjs
          have Hjs := Lib.hid hjs
          clear hjs
          go_wp2_with fail
          go_quiet (first | (go_at_call 65; refine Calls.quiet_of_same ((whole_any _ _ (by omega) (by omega)).mono fun _ _ ⟨he, hw⟩ => ⟨he, hw.symm⟩)))
          go_wp2_with fail
          have hmx := run_max_i64 Try.prog
          have e0 : Ext wr ((wr.alloc (.cells #[.int .i64 lo, .int .i64 hi] 45)).drewN nq) := ((Ext.refl wr).alloc _).drewN nq
          have b0 := Blk2.new wr (.int .i64 lo) (.int .i64 hi)
          obtain ⟨W, hW⟩ : ∃ W, W = (wr.alloc (.cells #[.int .i64 lo, .int .i64 hi] 45)).drewN nq := ⟨_, rfl⟩
          rw [← hW]
          rw [← hW] at e0
          have b1 : Blk2 W wr.heap.size (.int .i64 lo) (.int .i64 hi) := by rw [hW]; exact b0
          have fa := fun w' (h : Ext W w') => (b1.ext h).cell1
          have fb : ∀ w', Ext W w' → w'.cell? ⟨g, pre.length * 2 + 1, none⟩ = some (.int .i64 thi) := fun w' h => ((e0.trans h).cell ⟨g, pre.length * 2 + 1, none⟩ hgl2).trans hgc
          have fc : ∀ w', Ext W w' → w'.frozen? ⟨g, pre.length * 2 + 1, none⟩ = false := fun w' h => ((e0.trans h).cells.2 g _ hgl2).trans hgf
          have hownW := hown.ext e0
          have hEW := hE.trans e0
          have HO := Lib.hid hownW
          have HEW := Lib.hid hEW
          have HC := Lib.hid fc
          clear hW b0 b1 e0 hownW hEW hgc hgf hgca hd0 hd1 fc hown hE
          refine wp_region_rel (E := Ext) (m := 14) (by kernel_rfl) rfl (by decide) rfl (by kernel_rfl) (by kernel_rfl) ((Ext.refl _).drawn _) Ext.refl (fun _ _ _ => Ext.trans) ?_
          simp only [List.take_succ_cons, List.take_zero]
          apply rel_pure
          · intro act w' K' hE' he hK
            simp [Oper.looksAt, Op.operands] at he
            go_simp
            exact hK _ rfl
          apply rel_pure
          · intro act w' K' hE' he hK
            simp [Oper.looksAt, Op.operands, upd] at he
            go_simp
            exact hK _ rfl
          apply rel_pure
          · intro act w' K' hE' he hK
            simp [Oper.looksAt, Op.operands, upd] at he
            go_simp
            exact hK _ rfl
          apply rel_pure
          · intro act w' K' hE' he hK
            simp [Oper.looksAt, Op.operands, upd] at he
            go_simp
            exact hK _ rfl
          apply rel_pure
          · intro act w' K' hE' he hK
            simp [Oper.looksAt, Op.operands, upd] at he
            go_simp
            exact hK _ rfl
          apply rel_pure
          · intro act w' K' hE' he hK
            simp [Oper.looksAt, Op.operands, upd] at he
            go_simp
            exact hK _ rfl
          apply rel_pure
          · intro act w' K' hE' he hK
            simp [Oper.looksAt, Op.operands, upd] at he
            go_simp
            exact hK _ rfl
          apply rel_pure
          · intro act w' K' hE' he hK
            simp [Oper.looksAt, Op.operands, upd] at he
            go_simp
            exact hK _ rfl
          apply rel_pure
          · intro act w' K' hE' he hK
            simp [Oper.looksAt, Op.operands, upd] at he
            go_simp
            exact hK _ rfl
          apply rel_pure
          · intro act w' K' hE' he hK
            simp [Oper.looksAt, Op.operands, upd] at he
            go_simp
            exact hK _ rfl
          apply rel_pure
          · intro act w' K' hE' he hK
            simp [Oper.looksAt, Op.operands, upd] at he
            go_simp
            exact hK _ rfl
          apply rel_pure
          · intro act w' K' hE' he hK
            simp [Oper.looksAt, Op.operands, Call.operands, upd] at he
            go_simp
            exact hK _ rfl
          apply rel_pure
          · intro act w' K' hE' he hK
            simp [Oper.looksAt, Op.operands, upd] at he
            go_simp
            exact hK _ rfl
          apply rel_pure
          · intro act w' K' hE' he hK
            simp [Oper.looksAt, Op.operands, upd] at he
            go_simp
            exact hK _ rfl
          refine relSeq_nil fun w4 hE4 => ?_
          simp only [fin, List.nil_append, List.cons_append]
          rintro _ rfl _ rfl _ rfl _ rfl _ rfl _ rfl _ rfl _ rfl _ rfl _ rfl _ rfl _ rfl _ rfl _ rfl
          have z0 := fb w4 hE4
          have z1 := HC.out w4 hE4
          have hownF := (HO.out.ext hE4).setLast (max thi hi)
          have hEF := (HEW.out.trans hE4).setCell (p := ⟨g, pre.length * 2 + 1, none⟩) hgb (.int .i64 (max thi hi))
          have HOF := Lib.hid hownF
          have HEF := Lib.hid hEF
          clear hownF hEF fa fb
          simp only [Act.put]
          simp
          go_wp2
          (try apply_assumption)
          (try go_wp2)
          go_roundw
          case rel => exact ⟨k + 1, by omega, by go_num, by rw [Hstep.out, Hjs.out]; exact HOF.out, HEF.out⟩
          case measure => simp [intOf]; omega
        · rw [if_neg hc] at hjs
          have Hjs := Lib.hid hjs
          clear hjs
          go_wp2_with fail
          go_quiet (first | (go_at_call 65; refine Calls.quiet_of_same ((whole_any _ _ (by omega) (by omega)).mono fun _ _ ⟨he, hw⟩ => ⟨he, hw.symm⟩)))
          go_wp2_with (at_builtin; refine app_one rfl _ _ rfl w3.heap.size _ (pre ++ [(tlo, thi)]) _ lo hi rfl (((hown.alloc _).ext (Ext.drewN (Ext.refl _) _)).alloc _) rfl (cell_dq0 _ _ _ _ _) (cell_dq1 _ _ _ _ _) (by simp; omega) (by rw [size_dq]; omega) ?_)
          intro v' w1 hown1 hB1 _
          have hE1 : Ext w3 w1 := Below.trans (B := w3.heap.size) (((hE.alloc _).drewN _).alloc _) hB1
          clear hB1
          go_wp2
          go_roundw
          case rel => exact ⟨k + 1, by omega, by go_num, by rw [Hstep.out, Hjs.out]; simpa using hown1, hE1⟩
          case measure => simp [intOf]; omega
    · have hkl : k = l'.length := by omega
      subst hkl
      rw [List.take_of_length_le (Nat.le_refl _)] at hown
      obtain ⟨A2, c2, rfl⟩ := hown.form
      go_wp2
      go_ret
      exact ⟨_, rfl, ⟨l', HP.out, HS.out, A2, c2, rfl, hown.at_.2⟩, Below.trans HB3.out (hE.mono (by omega))⟩

set_option maxRecDepth 100000 in
set_option maxHeartbeats 1000000 in
theorem joined_after (w : World) (v : Value) (l : List Sp) (h : SpAt w v l) (hl : l.length ≤ 10000000) (hb : Bdd l) :
    Calls Try.prog 69 #[v, .func (.func 67) #[] #[]] w fun e w' => ∃ r, e = .returned r ∧ (∃ l' : List Sp, l'.Perm l ∧ l'.Pairwise (fun a b => a.1 ≤ b.1) ∧ SpAt w' r (joinL afterI l')) ∧ Ext w w' := by
  obtain ⟨A, c, rfl, hA⟩ := h
  obtain ⟨i0, hi0, hz0, hz1, hz2⟩ := info_parts info_span
  have hmk := run_make (P := Try.prog) w 22 45 i0 _ Try.underlying22 hi0 hz0 .i64 .i64 (l.length : Int) (l.length : Int) (by omega) (Int.le_refl _) (by rw [hz2]; omega) (by omega)
  simp only [Int.toNat_natCast, hz1] at hmk
  obtain ⟨cur, hcur⟩ : ∃ cur, cur = madeCells (Value.agg #[.int .i64 0, .int .i64 0]).cells (l.length * 2) := ⟨_, rfl⟩
  rw [← hcur] at hmk
  have hcs : cur.size = l.length * 2 := by rw [hcur]; exact size_madeCells _ _
  have hg0 : (w.alloc (.cells cur 45)).heap[w.heap.size]? = some (.cells cur 45 (0, 0)) := heap_alloc_new w _
  have hcp := run_copy_all (w.alloc (.cells cur 45)) 3 w.heap.size l.length c w.heap.size l A cur hg0 hcs (hA.alloc (Nat.le_refl _) _)
  have hg1 := setRow_heap (w.alloc (.cells cur 45)) w.heap.size cur (spc l).toArray 45 (0, 0) hg0
  have hB1 : Below w.heap.size w ((w.alloc (.cells cur 45)).setRow w.heap.size (spc l).toArray) := Below.trans ((Ext.refl w).alloc _) (below_setRow' _ _ _ _ (Nat.le_refl _))
  generalize hW1 : (w.alloc (.cells cur 45)).setRow w.heap.size (spc l).toArray = W1 at hcp hg1 hB1
  have HW1 := Lib.hid hW1
  clear hW1 hcur hcs hi0 hz0 hz1 hz2 hg0
  have HG1 := Lib.hid hg1
  have HB1 := Lib.hid hB1
  clear hg1 hB1
  go_enter Try.func69, Try.ntmps69
  go_wp2_with fail
  refine (sortSp_any W1 w.heap.size l l.length HG1.out (by omega)).mono ?_
  rintro e w3 ⟨rfl, l', hp, hsrt, hs3, hB3⟩
  have hlen' : l.length = l'.length := hp.length_eq.symm
  have hb' : Bdd l' := fun s hs => hb s (hp.mem_iff.1 hs)
  have HB3 := Lib.hid (Below.trans HB1.out hB3)
  have HP := Lib.hid hp
  have HS := Lib.hid hsrt
  have hgl : w.heap.size + 1 ≤ w3.heap.size := by
    have h1 := hB3.size
    have h2 : w.heap.size < W1.heap.size := by
      rcases Nat.lt_or_ge w.heap.size W1.heap.size with h | h
      · exact h
      · have := HG1.out; rw [Array.getElem?_eq_none h] at this; cases this
    omega
  rw [hlen'] at hl
  simp only [hlen']
  clear hp hsrt hB3 hb hlen' hA HB1 HG1 HW1 hcp hmk
  go_wp2
  go_loopw [6, 9, 20] (fun v n i wr => ∃ k : Nat, k ≤ l'.length ∧ i = .int .i64 k ∧ Own wr w3.heap.size v (joinL afterI (l'.take k)) ∧ Ext w3 wr) (fun _ _ i _ => l'.length - (intOf i).toNat)
  case atStart => exact ⟨0, Nat.zero_le _, rfl, Own.nil _ _, Ext.refl _⟩
  case round =>
    obtain ⟨k, hk, rfl, hown, hE⟩ := hrel
    have hlen : (joinL afterI (l'.take k)).length ≤ k := Nat.le_trans (joinL_len _ _) (by rw [List.length_take]; omega)
    have hbo : Bdd (joinL afterI (l'.take k)) := bdd_joinL (hb'.take k)
    by_cases hlt : k < l'.length
    · have hs := hb'.get hlt
      have hstep := joinL_take afterI l' k hlt
      obtain ⟨b, off, he, hbB, hc0, hc1⟩ := hs3.at_ hlt
      injection he with he
      injection he with he1 he2 _
      subst he1 he2
      have hd0 := (hE.cell ⟨w.heap.size, 0 + k * 2, none⟩ (by simp only; omega)).trans hc0
      have hd1 := (hE.cell ⟨w.heap.size, 0 + k * 2 + 1, none⟩ (by simp only; omega)).trans hc1
      simp only [Nat.zero_add] at hd0 hd1
      clear hc0 hc1 hs3
      generalize l'[k] = s at *
      generalize joinL afterI (l'.take k) = out at *
      have Hstep := Lib.hid hstep
      clear hstep
      obtain ⟨lo, hi⟩ := s
      simp only at hd0 hd1 hs
      obtain ⟨s1, s2, s3, s4⟩ := hs
      have hsz := hE.size
      rcases List.eq_nil_or_concat out with rfl | ⟨pre, ⟨tlo, thi⟩, rfl⟩
      · obtain ⟨A', c', rfl⟩ := hown.form
        simp only [List.length_nil]
        go_wp2_with fail
        go_quiet (fail)
        go_wp2_with (at_builtin; refine app_one rfl _ _ rfl w3.heap.size _ [] _ lo hi rfl (((hown.alloc _).ext (Ext.drewN (Ext.refl _) _)).alloc _) rfl (cell_dq0 _ _ _ _ _) (cell_dq1 _ _ _ _ _) (by simp) (by rw [size_dq]; omega) ?_)
        intro v' w1 hown1 hB1 _
        have hE1 : Ext w3 w1 := Below.trans (B := w3.heap.size) (((hE.alloc _).drewN _).alloc _) hB1
        clear hB1
        go_wp2
        go_roundw
        case rel => exact ⟨k + 1, by omega, by go_num, by rw [Hstep.out]; exact hown1, hE1⟩
        case measure => simp [intOf]; omega
      · rw [List.concat_eq_append] at *
        obtain ⟨g, cap, rfl, hgb, hgl2, hgc, hgf⟩ := hown.at0
        have ht := hbo (tlo, thi) (by simp)
        simp only at ht
        obtain ⟨t1, t2, t3, t4⟩ := ht
        have hpl : pre.length + 1 ≤ k := by simpa using hlen
        clear hbo hlen
        have hgca : ∀ o, (wr.alloc o).cell? ⟨g, pre.length * 2 + 1, none⟩ = some (.int .i64 thi) := fun o => (World.cell?_alloc_lt wr o _ hgl2).trans hgc
        have hbx := Blk2.new wr (.int .i64 lo) (.int .i64 hi)
        have HBX := Lib.hid hbx
        clear hbx
        have hjs := jstep_snoc afterI pre (tlo, thi) (lo, hi)
        simp only at hjs
        have hwr : IntKind.i64.wrap (pre.length : Int) = pre.length := by rw [IntKind.wrap_i64]; omega
        have hix1 : (pre.length : Int) < (pre.length : Int) + 1 := by omega
        have hix2 : (pre.length : Int) < ((pre.length + 1 : Nat) : Int) := by omega
        have hix3 : (0 : Int) ≤ (pre.length : Int) := by omega
        have hdec : decide ((0 : Int) < (pre.length : Int) + 1) = true := decide_eq_true (by omega)
        by_cases hc : lo ≤ afterI thi
        · rw [if_pos hc] at hjs
          have Hjs := Lib.hid hjs
          clear hjs
          go_wp2_with fail
          go_quiet (first | (go_at_call 67; refine Calls.quiet_of_same ((after_any _ _ (by omega) (by omega)).mono fun _ _ ⟨he, hw⟩ => ⟨he, hw.symm⟩)))
          go_wp2_with fail
          have hmx := run_max_i64 Try.prog
          have e0 : Ext wr ((wr.alloc (.cells #[.int .i64 lo, .int .i64 hi] 45)).drewN nq) := ((Ext.refl wr).alloc _).drewN nq
          have b0 := Blk2.new wr (.int .i64 lo) (.int .i64 hi)
          obtain ⟨W, hW⟩ : ∃ W, W = (wr.alloc (.cells #[.int .i64 lo, .int .i64 hi] 45)).drewN nq := ⟨_, rfl⟩
          rw [← hW]
          rw [← hW] at e0
          have b1 : Blk2 W wr.heap.size (.int .i64 lo) (.int .i64 hi) := by rw [hW]; exact b0
          have fa := fun w' (h : Ext W w') => (b1.ext h).cell1
          have fb : ∀ w', Ext W w' → w'.cell? ⟨g, pre.length * 2 + 1, none⟩ = some (.int .i64 thi) := fun w' h => ((e0.trans h).cell ⟨g, pre.length * 2 + 1, none⟩ hgl2).trans hgc
          have fc : ∀ w', Ext W w' → w'.frozen? ⟨g, pre.length * 2 + 1, none⟩ = false := fun w' h => ((e0.trans h).cells.2 g _ hgl2).trans hgf
          have hownW := hown.ext e0
          have hEW := hE.trans e0
          have HO := Lib.hid hownW
          have HEW := Lib.hid hEW
          have HC := Lib.hid fc
          clear hW b0 b1 e0 hownW hEW hgc hgf hgca hd0 hd1 fc hown hE
          refine wp_region_rel (E := Ext) (m := 14) (by kernel_rfl) rfl (by decide) rfl (by kernel_rfl) (by kernel_rfl) ((Ext.refl _).drawn _) Ext.refl (fun _ _ _ => Ext.trans) ?_
          simp only [List.take_succ_cons, List.take_zero]
          apply rel_pure
          · intro act w' K' hE' he hK
            simp [Oper.looksAt, Op.operands] at he
            go_simp
            exact hK _ rfl
          apply rel_pure
          · intro act w' K' hE' he hK
            simp [Oper.looksAt, Op.operands, upd] at he
            go_simp
            exact hK _ rfl
          apply rel_pure
          · intro act w' K' hE' he hK
            simp [Oper.looksAt, Op.operands, upd] at he
            go_simp
            exact hK _ rfl
          apply rel_pure
          · intro act w' K' hE' he hK
            simp [Oper.looksAt, Op.operands, upd] at he
            go_simp
            exact hK _ rfl
          apply rel_pure
          · intro act w' K' hE' he hK
            simp [Oper.looksAt, Op.operands, upd] at he
            go_simp
            exact hK _ rfl
          apply rel_pure
          · intro act w' K' hE' he hK
            simp [Oper.looksAt, Op.operands, upd] at he
            go_simp
            exact hK _ rfl
          apply rel_pure
          · intro act w' K' hE' he hK
            simp [Oper.looksAt, Op.operands, upd] at he
            go_simp
            exact hK _ rfl
          apply rel_pure
          · intro act w' K' hE' he hK
            simp [Oper.looksAt, Op.operands, upd] at he
            go_simp
            exact hK _ rfl
          apply rel_pure
          · intro act w' K' hE' he hK
            simp [Oper.looksAt, Op.operands, upd] at he
            go_simp
            exact hK _ rfl
          apply rel_pure
          · intro act w' K' hE' he hK
            simp [Oper.looksAt, Op.operands, upd] at he
            go_simp
            exact hK _ rfl
          apply rel_pure
          · intro act w' K' hE' he hK
            simp [Oper.looksAt, Op.operands, upd] at he
            go_simp
            exact hK _ rfl
          apply rel_pure
          · intro act w' K' hE' he hK
            simp [Oper.looksAt, Op.operands, Call.operands, upd] at he
            go_simp
            exact hK _ rfl
          apply rel_pure
          · intro act w' K' hE' he hK
            simp [Oper.looksAt, Op.operands, upd] at he
            go_simp
            exact hK _ rfl
          apply rel_pure
          · intro act w' K' hE' he hK
            simp [Oper.looksAt, Op.operands, upd] at he
            go_simp
            exact hK _ rfl
          refine relSeq_nil fun w4 hE4 => ?_
          simp only [fin, List.nil_append, List.cons_append]
          rintro _ rfl _ rfl _ rfl _ rfl _ rfl _ rfl _ rfl _ rfl _ rfl _ rfl _ rfl _ rfl _ rfl _ rfl
          have z0 := fb w4 hE4
          have z1 := HC.out w4 hE4
          have hownF := (HO.out.ext hE4).setLast (max thi hi)
          have hEF := (HEW.out.trans hE4).setCell (p := ⟨g, pre.length * 2 + 1, none⟩) hgb (.int .i64 (max thi hi))
          have HOF := Lib.hid hownF
          have HEF := Lib.hid hEF
          clear hownF hEF fa fb
          simp only [Act.put]
          simp
          go_wp2
          (try apply_assumption)
          (try go_wp2)
          go_roundw
          case rel => exact ⟨k + 1, by omega, by go_num, by rw [Hstep.out, Hjs.out]; exact HOF.out, HEF.out⟩
          case measure => simp [intOf]; omega
        · rw [if_neg hc] at hjs
          have Hjs := Lib.hid hjs
          clear hjs
          go_wp2_with fail
          go_quiet (first | (go_at_call 67; refine Calls.quiet_of_same ((after_any _ _ (by omega) (by omega)).mono fun _ _ ⟨he, hw⟩ => ⟨he, hw.symm⟩)))
          go_wp2_with (at_builtin; refine app_one rfl _ _ rfl w3.heap.size _ (pre ++ [(tlo, thi)]) _ lo hi rfl (((hown.alloc _).ext (Ext.drewN (Ext.refl _) _)).alloc _) rfl (cell_dq0 _ _ _ _ _) (cell_dq1 _ _ _ _ _) (by simp; omega) (by rw [size_dq]; omega) ?_)
          intro v' w1 hown1 hB1 _
          have hE1 : Ext w3 w1 := Below.trans (B := w3.heap.size) (((hE.alloc _).drewN _).alloc _) hB1
          clear hB1
          go_wp2
          go_roundw
          case rel => exact ⟨k + 1, by omega, by go_num, by rw [Hstep.out, Hjs.out]; simpa using hown1, hE1⟩
          case measure => simp [intOf]; omega
    · have hkl : k = l'.length := by omega
      subst hkl
      rw [List.take_of_length_le (Nat.le_refl _)] at hown
      obtain ⟨A2, c2, rfl⟩ := hown.form
      go_wp2
      go_ret
      exact ⟨_, rfl, ⟨l', HP.out, HS.out, A2, c2, rfl, hown.at_.2⟩, Below.trans HB3.out (hE.mono (by omega))⟩

end Go.Proofs.Ytaianhhmmacblaa
