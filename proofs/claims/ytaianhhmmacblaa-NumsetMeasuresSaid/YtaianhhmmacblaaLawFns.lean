import Derived.Test.YtaianhhmmacblaaBoundP
/-
  The laws' own small functions: ints, fracs, holds.
-/
namespace Go.Proofs.Ytaianhhmmacblaa
open Go.RowKit

theorem nm_store1 {w0 w : World} {g h : Nat} {lo hi : Int} (hb : BlkN w g (.slice none 0 0) (.slice none 0 0)) (h1 : SlAt w w.heap.size (some ⟨h, 0, none⟩) [(lo, hi)]) (hE : Ext w0 w) (hg : w0.heap.size ≤ g) :
    NmAt ((w.setCell ⟨g, 0, none⟩ (.slice (some ⟨h, 0, none⟩) 1 1)).setCell ⟨g, 1, none⟩ (.slice none 0 0)) (.agg #[.slice (some ⟨h, 0, none⟩) 1 1, .slice none 0 0]) ⟨[(lo, hi)], []⟩ ∧
    Ext w0 ((w.setCell ⟨g, 0, none⟩ (.slice (some ⟨h, 0, none⟩) 1 1)).setCell ⟨g, 1, none⟩ (.slice none 0 0)) ∧
    ((w.setCell ⟨g, 0, none⟩ (.slice (some ⟨h, 0, none⟩) 1 1)).setCell ⟨g, 1, none⟩ (.slice none 0 0)).cell? ⟨g, 0, none⟩ = some (.slice (some ⟨h, 0, none⟩) 1 1) ∧
    ((w.setCell ⟨g, 0, none⟩ (.slice (some ⟨h, 0, none⟩) 1 1)).setCell ⟨g, 1, none⟩ (.slice none 0 0)).cell? ⟨g, 1, none⟩ = some (.slice none 0 0) :=
  nm_store (c := 1) (c' := 0) (d := ⟨[(lo, hi)], []⟩) hb h1 (SlAt.nil _ _ none) hE hg
theorem nm_store2 {w0 w : World} {g h : Nat} {lo hi : Int} (hb : BlkN w g (.slice none 0 0) (.slice none 0 0)) (h1 : SlAt w w.heap.size (some ⟨h, 0, none⟩) [(lo, hi)]) (hE : Ext w0 w) (hg : w0.heap.size ≤ g) :
    NmAt ((w.setCell ⟨g, 0, none⟩ (.slice none 0 0)).setCell ⟨g, 1, none⟩ (.slice (some ⟨h, 0, none⟩) 1 1)) (.agg #[.slice none 0 0, .slice (some ⟨h, 0, none⟩) 1 1]) ⟨[], [(lo, hi)]⟩ ∧
    Ext w0 ((w.setCell ⟨g, 0, none⟩ (.slice none 0 0)).setCell ⟨g, 1, none⟩ (.slice (some ⟨h, 0, none⟩) 1 1)) ∧
    ((w.setCell ⟨g, 0, none⟩ (.slice none 0 0)).setCell ⟨g, 1, none⟩ (.slice (some ⟨h, 0, none⟩) 1 1)).cell? ⟨g, 0, none⟩ = some (.slice none 0 0) ∧
    ((w.setCell ⟨g, 0, none⟩ (.slice none 0 0)).setCell ⟨g, 1, none⟩ (.slice (some ⟨h, 0, none⟩) 1 1)).cell? ⟨g, 1, none⟩ = some (.slice (some ⟨h, 0, none⟩) 1 1) :=
  nm_store (c := 0) (c' := 1) (d := ⟨[], [(lo, hi)]⟩) hb (SlAt.nil _ _ none) h1 hE hg

set_option maxRecDepth 100000 in
theorem intsL_any (w : World) (lo hi : Int) : Calls Try.prog 53 #[.int .i64 lo, .int .i64 hi] w fun e w' => ∃ r, e = .returned r ∧ NmAt w' r ⟨[(lo, hi)], []⟩ ∧ Ext w w' := by
  have b := ((BlkN.new w (.slice none 0 0) (.slice none 0 0)).alloc (.cells #[.int .i64 lo, .int .i64 hi] 45))
  have s := Blk2.new (w.alloc (.cells #[.slice none 0 0, .slice none 0 0] 24)) (.int .i64 lo) (.int .i64 hi)
  rw [show (w.alloc (.cells #[.slice none 0 0, .slice none 0 0] 24)).heap.size = w.heap.size + 1 by simp] at s
  have hE : Ext w ((w.alloc (.cells #[.slice none 0 0, .slice none 0 0] 24)).alloc (.cells #[.int .i64 lo, .int .i64 hi] 45)) := ((Ext.refl w).alloc _).alloc _
  generalize hW : ((w.alloc (.cells #[.slice none 0 0, .slice none 0 0] 24)).alloc (.cells #[.int .i64 lo, .int .i64 hi] 45)) = W at *
  have hlt : w.heap.size + 1 < W.heap.size := s.lt
  have hfin := nm_store1 b (sl_one s hlt) hE (by omega)
  have z0 := b.cell0
  have z1 := b.cell1
  have z2 := b.frozen0
  have z3 := fun u => (b.set0 u).frozen0 1
  have z4 := fun u => (b.set0 u).cell1
  obtain ⟨n1, n2, n3, n4⟩ := hfin
  have N1 := Lib.hid n1
  have N2 := Lib.hid n2
  clear n1 n2 b s hE hlt
  go_enter Try.func53, Try.ntmps53
  go_wp2
  exact bodyPost_ret (v := .agg #[.slice (some ⟨w.heap.size + 1, 0, none⟩) 1 1, .slice none 0 0]) (by simp [results, Try.results53, go_sem, n3, n4]) rfl ⟨_, rfl, N1.out, N2.out⟩

set_option maxRecDepth 100000 in
theorem fracsL_any (w : World) (lo hi : Int) : Calls Try.prog 54 #[.int .i64 lo, .int .i64 hi] w fun e w' => ∃ r, e = .returned r ∧ NmAt w' r ⟨[], [(lo, hi)]⟩ ∧ Ext w w' := by
  have b := ((BlkN.new w (.slice none 0 0) (.slice none 0 0)).alloc (.cells #[.int .i64 lo, .int .i64 hi] 45))
  have s := Blk2.new (w.alloc (.cells #[.slice none 0 0, .slice none 0 0] 24)) (.int .i64 lo) (.int .i64 hi)
  rw [show (w.alloc (.cells #[.slice none 0 0, .slice none 0 0] 24)).heap.size = w.heap.size + 1 by simp] at s
  have hE : Ext w ((w.alloc (.cells #[.slice none 0 0, .slice none 0 0] 24)).alloc (.cells #[.int .i64 lo, .int .i64 hi] 45)) := ((Ext.refl w).alloc _).alloc _
  generalize hW : ((w.alloc (.cells #[.slice none 0 0, .slice none 0 0] 24)).alloc (.cells #[.int .i64 lo, .int .i64 hi] 45)) = W at *
  have hlt : w.heap.size + 1 < W.heap.size := s.lt
  have hfin := nm_store2 b (sl_one s hlt) hE (by omega)
  have z0 := b.cell0
  have z1 := b.cell1
  have z2 := b.frozen0
  have z3 := fun u => (b.set0 u).frozen0 1
  have z4 := fun u => (b.set0 u).cell1
  obtain ⟨n1, n2, n3, n4⟩ := hfin
  have N1 := Lib.hid n1
  have N2 := Lib.hid n2
  clear n1 n2 b s hE hlt
  go_enter Try.func54, Try.ntmps54
  go_wp2
  exact bodyPost_ret (v := .agg #[.slice none 0 0, .slice (some ⟨w.heap.size + 1, 0, none⟩) 1 1]) (by simp [results, Try.results54, go_sem, n3, n4]) rfl ⟨_, rfl, N1.out, N2.out⟩

def holdsL (op : ByteArray) (x u : Int) : Bool :=
  if eqS op opLt then decide (x < u) else if eqS op opLe then decide (x ≤ u) else if eqS op opGt then decide (u < x) else if eqS op opGe then decide (u ≤ x) else if eqS op opEq then (x == u) else (x != u)
set_option maxRecDepth 100000 in
theorem holds_any (w : World) (op : ByteArray) (x u : Int) : Calls Try.prog 18 #[.string op, .int .i64 x, .int .i64 u] w fun e w' => e = .returned (.bool (holdsL op x u)) ∧ w = w' := by
  have hd : Hid (holdsL op x u = if eqS op opLt then decide (x < u) else if eqS op opLe then decide (x ≤ u) else if eqS op opGt then decide (u < x) else if eqS op opGe then decide (u ≤ x) else if eqS op opEq then (x == u) else (x != u)) := Lib.hid rfl
  go_enter Try.func18, Try.ntmps18
  cases g0 : eqS op opLt
  rotate_left
  · have q0 : (op.toList == [60]) = true := by rw [← tl_lt]; exact g0
    go_wp2
    go_ret
    exact ⟨by rw [hd.out]; simp [g0], rfl⟩
  · have q0 : (op.toList == [60]) = false := by rw [← tl_lt]; exact g0
    cases g1 : eqS op opLe
    rotate_left
    · have q1 : (op.toList == [60, 61]) = true := by rw [← tl_le]; exact g1
      go_wp2
      go_ret
      exact ⟨by rw [hd.out]; simp [g0, g1], rfl⟩
    · have q1 : (op.toList == [60, 61]) = false := by rw [← tl_le]; exact g1
      cases g2 : eqS op opGt
      rotate_left
      · have q2 : (op.toList == [62]) = true := by rw [← tl_gt]; exact g2
        go_wp2
        go_ret
        exact ⟨by rw [hd.out]; simp [g0, g1, g2], rfl⟩
      · have q2 : (op.toList == [62]) = false := by rw [← tl_gt]; exact g2
        cases g3 : eqS op opGe
        rotate_left
        · have q3 : (op.toList == [62, 61]) = true := by rw [← tl_ge]; exact g3
          go_wp2
          go_ret
          exact ⟨by rw [hd.out]; simp [g0, g1, g2, g3], rfl⟩
        · have q3 : (op.toList == [62, 61]) = false := by rw [← tl_ge]; exact g3
          cases g4 : eqS op opEq
          rotate_left
          · have q4 : (op.toList == [61, 61]) = true := by rw [← tl_eq]; exact g4
            go_wp2
            go_ret
            exact ⟨by rw [hd.out]; simp [g0, g1, g2, g3, g4], rfl⟩
          · have q4 : (op.toList == [61, 61]) = false := by rw [← tl_eq]; exact g4
            go_wp2
            go_ret
            exact ⟨by rw [hd.out]; simp [g0, g1, g2, g3, g4], rfl⟩

def fewB (x : Nat × Nat) : Bool := decide (x.1 ≤ 8) && decide (x.2 ≤ 8)
set_option maxRecDepth 100000 in
set_option maxHeartbeats 1000000 in
theorem few_any (w : World) (g : Nat) (X : List (Nat × Nat)) (c0 : Nat) (hg : g < w.heap.size) (hX : ∀ k x, X[k]? = some x → ∃ A c B e, w.cell? ⟨g, k * 2, none⟩ = some (.slice A x.1 c) ∧ w.cell? ⟨g, k * 2 + 1, none⟩ = some (.slice B x.2 e)) (hlen : X.length ≤ 1000) :
    Calls Try.prog 19 #[.slice (some ⟨g, 0, none⟩) X.length c0] w fun e w' => e = .returned (.bool (X.all fewB)) ∧ Ext w w' := by
  go_enter Try.func19, Try.ntmps19
  go_wp2
  go_loopw [4, 7] (fun _ i wr => ∃ k : Nat, k ≤ X.length ∧ i = .int .i64 k ∧ Hid ((X.take k).all fewB = true) ∧ Ext w wr) (fun _ i _ => X.length - (intOf i).toNat)
  case atStart => exact ⟨0, Nat.zero_le _, rfl, by show (X.take 0).all fewB = true; simp, Ext.refl w⟩
  case round =>
    obtain ⟨k, hk, rfl, Hn, hE⟩ := hrel
    by_cases hlt : k < X.length
    · obtain ⟨A, c, B, e, hc0, hc1⟩ := hX k X[k] (List.getElem?_eq_getElem hlt)
      have hd0 := (hE.cell ⟨g, k * 2, none⟩ hg).trans hc0
      have hd1 := (hE.cell ⟨g, k * 2 + 1, none⟩ hg).trans hc1
      have hin : Hid (X.take (k + 1) = X.take k ++ [X[k]]) := Lib.hid (List.take_succ_eq_append_getElem hlt)
      have hmem : Hid (X[k] ∈ X) := Lib.hid (List.getElem_mem hlt)
      clear hc0 hc1 hX
      generalize X[k] = x at *
      obtain ⟨n, m⟩ := x
      simp only at hd0 hd1
      by_cases h1 : n ≤ 8
      · by_cases h2 : m ≤ 8
        · have hs : Hid ((X.take (k + 1)).all fewB = true) := Lib.hid (by rw [hin.out, List.all_append, Hn.out]; simp [fewB, h1, h2])
          have h3 : ¬ (8 : Int) < n := by omega
          have h4 : ¬ (8 : Int) < m := by omega
          clear hmem hin Hn
          go_wp2
          go_roundw
          case rel => exact ⟨k + 1, by omega, by go_num, hs, hE.alloc _⟩
          case measure => simp [intOf]; omega
        · have hs : Hid (X.all fewB = false) := Lib.hid (List.all_eq_false.2 ⟨_, hmem.out, by simp [fewB, h2]⟩)
          have h3 : ¬ (8 : Int) < n := by omega
          have h4 : (8 : Int) < m := by omega
          clear hmem hin Hn
          go_wp2
          go_ret
          exact ⟨by rw [hs.out]; rfl, hE.alloc _⟩
      · have hs : Hid (X.all fewB = false) := Lib.hid (List.all_eq_false.2 ⟨_, hmem.out, by simp [fewB, h1]⟩)
        have h3 : (8 : Int) < n := by omega
        clear hmem hin Hn
        go_wp2
        go_ret
        exact ⟨by rw [hs.out]; rfl, hE.alloc _⟩
    · have hkl : k = X.length := by omega
      subst hkl
      have hn := Hn.out
      rw [List.take_of_length_le (Nat.le_refl _)] at hn
      have HN := Lib.hid hn
      clear hn Hn hX
      go_wp2
      go_ret
      exact ⟨by rw [HN.out]; rfl, hE⟩

end Go.Proofs.Ytaianhhmmacblaa
