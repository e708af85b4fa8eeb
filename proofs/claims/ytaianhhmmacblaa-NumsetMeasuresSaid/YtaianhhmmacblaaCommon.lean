import Derived.Test.YtaianhhmmacblaaRelOps
import Derived.Test.YtaianhhmmacblaaMath0
import Derived.Maps.AppendAt
/-
  The program's common: the meets of each two spans.
-/
namespace Go.Proofs.Ytaianhhmmacblaa
open Go.RowKit

/-- append of one span; where the row lies behind it -/
theorem app_one_at {ops : Array Oper} {rest : List Oper} {o : Oper} {a : Act} {Q : Exit → Act → World → Prop} {w : World} (hgd : o.guard = none) (s x : Operand)
    (ho : o.op = .call { callee := .builtin .append, args := #[s, x], argTypes := #[22, 22] })
    (base : Nat) (v : Value) (l : List Sp) (g : Nat) (lo hi : Int) (hs : a.eval s = v) (hown : Own w base v l) (hx : a.eval x = .slice (some ⟨g, 0, none⟩) 1 1)
    (h0 : w.cell? ⟨g, 0, none⟩ = some (.int .i64 lo)) (h1 : w.cell? ⟨g, 1, none⟩ = some (.int .i64 hi)) (hlen : l.length ≤ 1000000000) (hbase : base ≤ w.heap.size)
    (h : ∀ v' w', Own w' base v' (l ++ [(lo, hi)]) → Below base w w' → (∀ g, g < w.heap.size → v.ownBlock ≠ some g → w'.heap[g]? = w.heap[g]?) → (v'.ownBlock = v.ownBlock ∨ v'.ownBlock = some w.heap.size) → wpList Try.prog ops Q rest (a.put o.dst v') w') : wpList Try.prog ops Q (o :: rest) a w := by
  obtain ⟨i0, hi0, hz0, hz1, hz2⟩ := info_parts info_span
  refine wpList_append_own_at w hgd s x 22 ho base 45 i0 _ 2 16 Try.underlying22 hi0 hz0 hz1 hz2 rfl (by decide) v l.length (spc l) hs hown
    ⟨g, 0, none⟩ 1 1 [.int .i64 lo, .int .i64 hi] hx rfl ?_ ?_ (by unfold maxLen; omega) (by omega) hbase ?_
  · intro j u hu
    match j, hu with
    | 0, hu => simp at hu; subst hu; exact h0
    | 1, hu => simp at hu; subst hu; exact h1
  · intro u hu
    simp at hu
    rcases hu with rfl | rfl <;> rfl
  · intro v' w' hown' hg _ hat
    refine h v' w' ?_ ?_ (fun k hk hne => hg.block k hk (fun e => hne e.symm)) hat
    · unfold Own
      rw [spc_append]
      simpa [spc_one] using hown'
    · exact (Below.refl base w).grown hg hbase fun k hk => (hown.lt k hk).1

theorem cell_three0 (w : World) (o o' : Obj) (x y : Value) : (((w.alloc o).alloc o').alloc (.cells #[x, y] 45)).cell? ⟨w.heap.size + 1 + 1, 0, none⟩ = some x := by
  simpa using (Blk2.new ((w.alloc o).alloc o') x y).cell0
theorem cell_three1 (w : World) (o o' : Obj) (x y : Value) : (((w.alloc o).alloc o').alloc (.cells #[x, y] 45)).cell? ⟨w.heap.size + 1 + 1, 1, none⟩ = some y := by
  simpa using (Blk2.new ((w.alloc o).alloc o') x y).cell1

set_option maxRecDepth 100000 in
set_option maxHeartbeats 1000000 in
theorem common_any (w : World) (v1 v2 : Value) (l1 l2 : List Sp) (h1 : SpAt w v1 l1) (h2 : SpAt w v2 l2) (hl1 : l1.length ≤ 20000) (hl2 : l2.length ≤ 20000) :
    Calls Try.prog 62 #[v1, v2] w fun e w' => ∃ r, e = .returned r ∧ SpAt w' r (commonL l1 l2) ∧ Ext w w' := by
  obtain ⟨A1, c1, rfl, hA1⟩ := h1
  obtain ⟨A2, c2, rfl, hA2⟩ := h2
  go_enter Try.func62, Try.ntmps62
  go_wp2
  go_loopw [5, 7, 9, 10, 13] (fun v _ _ _ i wr => ∃ k : Nat, k ≤ l1.length ∧ i = .int .i64 k ∧ Own wr w.heap.size v ((l1.take k).foldl (ostep l2) []) ∧ Ext w wr) (fun _ _ _ _ i _ => l1.length - (intOf i).toNat)
  case atStart => exact ⟨0, Nat.zero_le _, rfl, Own.nil _ _, Ext.refl _⟩
  case round =>
    obtain ⟨k, hk, rfl, hown, hE⟩ := hrel
    by_cases hlt : k < l1.length
    · have hstep := ostep_take l2 l1 k hlt
      obtain ⟨b, off, rfl, hbB, hc0, hc1⟩ := hA1.at_ hlt
      have hd0 := (hE.cell ⟨b, off + k * 2, none⟩ hbB).trans hc0
      have hd1 := (hE.cell ⟨b, off + k * 2 + 1, none⟩ hbB).trans hc1
      have hlen := ostep_len l2 (l1.take k) []
      have hlen2 : (l1.take k).length * l2.length ≤ 20000 * 20000 := Nat.mul_le_mul (by rw [List.length_take]; omega) hl2
      rw [List.length_nil, Nat.zero_add] at hlen
      have hlen3 : ((l1.take k).foldl (ostep l2) []).length ≤ 400000000 := by omega
      clear hc0 hc1 hA1 hlen hlen2
      generalize l1[k] = s at *
      generalize (l1.take k).foldl (ostep l2) [] = acc0 at *
      have Hstep := Lib.hid hstep
      clear hstep
      obtain ⟨x1, x2⟩ := s
      simp only at hd0 hd1
      have hsz := hE.size
      obtain ⟨wo, rfl⟩ : ∃ wo : World, wo = wr := ⟨_, rfl⟩
      go_wp2
      go_loopw [5, 9, 10, 19] (fun v _ _ i wi => ∃ j : Nat, j ≤ l2.length ∧ i = .int .i64 j ∧ Own wi w.heap.size v ((l2.take j).foldl (cstep (x1, x2)) acc0) ∧ v.ownBlock ≠ some wo.heap.size ∧ Blk2 wi wo.heap.size (.int .i64 x1) (.int .i64 x2) ∧ Ext w wi) (fun _ _ _ i _ => l2.length - (intOf i).toNat)
      case atStart => exact ⟨0, Nat.zero_le _, rfl, hown.alloc _, fun e => by have := (hown.lt _ e).2; omega, Blk2.new _ _ _, hE.alloc _⟩
      case round =>
        obtain ⟨j, hj, rfl, hown2, hne, hbk, hE2⟩ := hrel
        have hlw : wo.heap.size < wr.heap.size := hbk.lt
        by_cases hlj : j < l2.length
        · have hstep2 := cstep_take (x1, x2) acc0 l2 j hlj
          obtain ⟨b', off', rfl, hbB', hc0, hc1⟩ := hA2.at_ hlj
          have he0 := (hE2.cell ⟨b', off' + j * 2, none⟩ hbB').trans hc0
          have he1 := (hE2.cell ⟨b', off' + j * 2 + 1, none⟩ hbB').trans hc1
          have hlen4 := cstep_len (x1, x2) (l2.take j) acc0
          have hlen5 : (l2.take j).length ≤ 20000 := by rw [List.length_take]; omega
          have hlen6 : ((l2.take j).foldl (cstep (x1, x2)) acc0).length ≤ 500000000 := by omega
          clear hc0 hc1 hA2 hlen4 hlen5
          generalize l2[j] = s at *
          generalize (l2.take j).foldl (cstep (x1, x2)) acc0 = acc at *
          have Hstep2 := Lib.hid hstep2
          clear hstep2
          obtain ⟨y1, y2⟩ := s
          simp only at he0 he1
          have hmx := fun ts t w => run_max_i64 Try.prog ts t x1 y1 w
          have hmn := fun ts t w => run_min_i64 Try.prog ts t x2 y2 w
          have hof : cstep (x1, x2) acc (y1, y2) = if decide (max x1 y1 ≤ min x2 y2) then acc ++ [(max x1 y1, min x2 y2)] else acc := rfl
          generalize max x1 y1 = z1 at *
          generalize min x2 y2 = z2 at *
          have e0a := fun o => (hbk.alloc o).cell0
          have e1a := fun o => (hbk.alloc o).cell1
          have HB := Lib.hid hbk
          clear hbk
          by_cases hc : z1 ≤ z2
          · rw [if_pos (by simpa using hc)] at hof
            have Hs := Lib.hid hof
            clear hof
            go_wp2_with (at_builtin; refine app_one_at rfl _ _ rfl w.heap.size _ acc _ z1 z2 rfl (((hown2.alloc _).alloc _).alloc _) rfl (cell_three0 _ _ _ _ _) (cell_three1 _ _ _ _ _) (by omega) (by simp; omega) ?_)
            intro v' w1 hown3 hB1 hg1 hat1
            have hE3 : Ext w w1 := Below.trans (((hE2.alloc _).alloc _).alloc _) hB1
            have hb3 : Blk2 w1 wo.heap.size (.int .i64 x1) (.int .i64 x2) := (hg1 wo.heap.size (by omega) hne).trans (((HB.out.alloc _).alloc _).alloc _)
            have hne3 : v'.ownBlock ≠ some wo.heap.size := by
              rcases hat1 with h | h
              · rw [h]; exact hne
              · rw [h]; intro e; injection e with e; omega
            have HB3 := Lib.hid hb3
            clear hB1 hb3 hat1 hg1 e0a e1a
            go_wp2
            go_roundw
            case rel => exact ⟨j + 1, by omega, by go_num, by rw [Hstep2.out, Hs.out]; exact hown3, hne3, HB3.out, hE3⟩
            case measure => simp [intOf]; omega
          · rw [if_neg (by simpa using hc)] at hof
            have Hs := Lib.hid hof
            clear hof
            go_wp2
            go_roundw
            case rel => exact ⟨j + 1, by omega, by go_num, by rw [Hstep2.out, Hs.out]; exact (hown2.alloc _).alloc _, hne, (HB.out.alloc _).alloc _, (hE2.alloc _).alloc _⟩
            case measure => simp [intOf]; omega
        · have hjl : j = l2.length := by omega
          subst hjl
          rw [List.take_of_length_le (Nat.le_refl _)] at hown2
          go_wp2
          go_roundw
          case rel => exact ⟨k + 1, by omega, by go_num, by rw [Hstep.out]; exact hown2, hE2⟩
          case measure => simp [intOf]; omega
    · have hkl : k = l1.length := by omega
      subst hkl
      rw [List.take_of_length_le (Nat.le_refl _)] at hown
      obtain ⟨A3, c3, rfl⟩ := hown.form
      go_wp2
      go_ret
      exact ⟨_, rfl, ⟨A3, c3, rfl, hown.at_.2⟩, hE⟩
end Go.Proofs.Ytaianhhmmacblaa
