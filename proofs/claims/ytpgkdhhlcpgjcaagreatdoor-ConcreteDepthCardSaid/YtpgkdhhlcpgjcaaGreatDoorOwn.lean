import Derived.Test.YtpgkdhhlcpgjcaaGreatDoorMem
import Derived.Outline
import Derived.WalkSpells
import Derived.WalkLawsBesides
import Derived.Lib.Hide
import Derived.BigQuiet
import Derived.Deep.QuietTactic
/-
  Rows of spans that a call makes for itself, and appends to them.
-/
namespace Go.Proofs.YtpgkdhhlcpgjcaaGreatDoor
open Go.RowKit

theorem info_span : (Tryz.prog.info? 57).map (fun i => (i.zero, i.size, i.bytes)) = some (some (.agg #[.int .i64 0, .int .i64 0]), 2, 16) := by kernel_rfl

/-- v is a row of the call's own, in blocks from base on, that holds the spans l -/
def Own (w : World) (base : Nat) (v : Value) (l : List Sp) : Prop := w.ownsRow base 57 2 v l.length (spc l)
theorem Own.nil (w : World) (base : Nat) : Own w base (.slice none 0 0) [] := World.ownsRow_nil w base _ 2
theorem Own.form {w : World} {base : Nat} {v : Value} {l : List Sp} (h : Own w base v l) : ∃ A c, v = .slice A l.length c := by
  rcases h.2 with ⟨h1, h2⟩ | ⟨g, cap, cur, h1, _⟩
  · exact ⟨none, 0, by rw [h1, h2]⟩
  · exact ⟨_, _, h1⟩
theorem Own.at_ {w : World} {base : Nat} {A : Option Addr} {n c : Nat} {l : List Sp} (h : Own w base (.slice A n c) l) : n = l.length ∧ SlAt w w.heap.size A l := by
  have hn : n = l.length := by
    obtain ⟨A', c', e⟩ := h.form
    injection e
  subst hn
  exact ⟨rfl, SlAt.of_own h⟩
theorem Own.lt {w : World} {base : Nat} {v : Value} {l : List Sp} (h : Own w base v l) : ∀ k, v.ownBlock = some k → base ≤ k ∧ k < w.heap.size := World.ownsRow.lt h
theorem Own.keep {w w' : World} {base : Nat} {v : Value} {l : List Sp} (h : Own w base v l) (hk : ∀ g, v.ownBlock = some g → w'.heap[g]? = w.heap[g]?) : Own w' base v l := by
  refine ⟨h.1, ?_⟩
  rcases h.2 with h1 | ⟨g, cap, cur, rfl, hb, hg, rest⟩
  · exact .inl h1
  · exact .inr ⟨g, cap, cur, rfl, hb, by rw [hk g rfl]; exact hg, rest⟩
theorem Own.ext {w w' : World} {base : Nat} {v : Value} {l : List Sp} (h : Own w base v l) (hE : Ext w w') : Own w' base v l :=
  h.keep fun g hg => hE.block g (h.lt g hg).2
theorem Own.alloc {w : World} {base : Nat} {v : Value} {l : List Sp} (h : Own w base v l) (o : Obj) : Own (w.alloc o) base v l := World.ownsRow.alloc h o
theorem Own.drew {w : World} {base : Nat} {v : Value} {l : List Sp} (h : Own w base v l) : Own w.drew base v l := h
/-- a store into a block that is not the row's -/
theorem Own.setOther {w : World} {base : Nat} {v : Value} {l : List Sp} (h : Own w base v l) {p : Addr} (hp : v.ownBlock ≠ some p.block) (u : Value) : Own (w.setCell p u) base v l :=
  h.keep fun g hg => Below.heap_setCell w p u g (fun e => hp (by rw [hg, e]))

/-- append of one span, which lies in two cells of a block -/
theorem app_one {ops : Array Oper} {rest : List Oper} {o : Oper} {a : Act} {Q : Exit → Act → World → Prop} {w : World} (hgd : o.guard = none) (s x : Operand)
    (ho : o.op = .call { callee := .builtin .append, args := #[s, x], argTypes := #[28, 28] })
    (base : Nat) (v : Value) (l : List Sp) (g : Nat) (lo hi : Int) (hs : a.eval s = v) (hown : Own w base v l) (hx : a.eval x = .slice (some ⟨g, 0, none⟩) 1 1)
    (h0 : w.cell? ⟨g, 0, none⟩ = some (.int .i64 lo)) (h1 : w.cell? ⟨g, 1, none⟩ = some (.int .i64 hi)) (hlen : l.length ≤ 1000000000) (hbase : base ≤ w.heap.size)
    (h : ∀ v' w', Own w' base v' (l ++ [(lo, hi)]) → Below base w w' → (∀ g, g < w.heap.size → v.ownBlock ≠ some g → w'.heap[g]? = w.heap[g]?) → wpList Tryz.prog ops Q rest (a.put o.dst v') w') : wpList Tryz.prog ops Q (o :: rest) a w := by
  obtain ⟨i0, hi0, hz0, hz1, hz2⟩ := info_parts info_span
  refine wpList_append_own w hgd s x 28 ho base 57 i0 _ 2 16 Tryz.underlying28 hi0 hz0 hz1 hz2 rfl (by decide) v l.length (spc l) hs hown
    ⟨g, 0, none⟩ 1 1 [.int .i64 lo, .int .i64 hi] hx rfl ?_ ?_ (by unfold maxLen; omega) (by omega) hbase ?_
  · intro j u hu
    match j, hu with
    | 0, hu => simp at hu; subst hu; exact h0
    | 1, hu => simp at hu; subst hu; exact h1
  · intro u hu
    simp at hu
    rcases hu with rfl | rfl <;> rfl
  · intro v' w' hown' hg _
    refine h v' w' ?_ ?_ fun k hk hne => hg.block k hk (fun e => hne e.symm)
    · unfold Own
      rw [spc_append]
      simpa [spc_one] using hown'
    · exact (Below.refl base w).grown hg hbase fun k hk => (hown.lt k hk).1

theorem run_app_none {w : World} (base : Nat) (ty : TypeId) (v : Value) (l : List Sp) (hown : Own w base v l) (c : Nat) :
    (Builtin.append_ #[28, 28] ty #[v, .slice none 0 c]).run Tryz.prog w = .ok v w := by
  obtain ⟨i0, hi0, hz0, hz1, hz2⟩ := info_parts info_span
  have ht := Tryz.underlying28
  rcases hown.2 with ⟨rfl, hn⟩ | ⟨g, cap, cur, rfl, _, _, hnc, _⟩
  · simp [Builtin.append_, run_underlying ht, sizeOf, typeInfo, hi0, Builtin.lenOf, Builtin.firstCells]
  · simp [Builtin.append_, run_underlying ht, sizeOf, typeInfo, hi0, Builtin.lenOf, Builtin.firstCells, hnc, storeCells]

set_option maxRecDepth 100000 in
/-- append of a slice of spans -/
theorem app_many {ops : Array Oper} {rest : List Oper} {o : Oper} {a : Act} {Q : Exit → Act → World → Prop} {w : World} (hgd : o.guard = none) (s x : Operand)
    (ho : o.op = .call { callee := .builtin .append, args := #[s, x], argTypes := #[28, 28] })
    (base : Nat) (v : Value) (l : List Sp) (A : Option Addr) (c : Nat) (l2 : List Sp) (hs : a.eval s = v) (hown : Own w base v l) (hx : a.eval x = .slice A l2.length c)
    (h2 : SlAt w w.heap.size A l2) (hlen : l.length + l2.length ≤ 1000000000) (hbase : base ≤ w.heap.size)
    (h : ∀ v' w', Own w' base v' (l ++ l2) → Below base w w' → (∀ g, g < w.heap.size → v.ownBlock ≠ some g → w'.heap[g]? = w.heap[g]?) → wpList Tryz.prog ops Q rest (a.put o.dst v') w') : wpList Tryz.prog ops Q (o :: rest) a w := by
  cases A with
  | none =>
    have hl2 : l2 = [] := Classical.byContradiction fun hne => by
      obtain ⟨b, off, e, _⟩ := h2 hne
      cases e
    subst hl2
    refine wpList_plain hgd fun K hK => ?_
    have hrun := run_app_none base o.type v l hown c
    unfold Oper.wp
    simp [execOp, ho, resolve, invoke, builtin, hs, hx, hrun, Result.andThen]
    exact hK _ _ (h v w (by simpa using hown) (Below.refl _ _) fun _ _ _ => rfl)
  | some ad =>
    obtain ⟨i0, hi0, hz0, hz1, hz2⟩ := info_parts info_span
    refine wpList_append_own w hgd s x 28 ho base 57 i0 _ 2 16 Tryz.underlying28 hi0 hz0 hz1 hz2 rfl (by decide) v l.length (spc l) hs hown
      ad l2.length c (spc l2) hx (spc_length l2) ?_ (spc_oneCell l2) (by unfold maxLen; omega) (by omega) hbase ?_
    · intro j u hu
      have hl2 : l2 ≠ [] := fun e => by subst e; simp [spc] at hu
      obtain ⟨b, off, e, _, hc⟩ := h2 hl2
      injection e with e
      subst e
      have hjl : j < l2.length * 2 := by
        rw [← spc_length]
        exact (List.getElem?_eq_some_iff.1 hu).1
      have hk : j / 2 < l2.length := by omega
      have hcc := hc (j / 2) l2[j / 2] (List.getElem?_eq_getElem hk)
      have hgg := spc_get l2 (j / 2) l2[j / 2] (List.getElem?_eq_getElem hk)
      have hadd : (⟨b, off, none⟩ : Addr).add j = ⟨b, off + j, none⟩ := by
        unfold Addr.add
        split
        · rename_i h0; subst h0; rfl
        · rfl
      rw [hadd]
      rcases Nat.mod_two_eq_zero_or_one j with h0 | h0
      · have ej : j / 2 * 2 = j := by omega
        rw [ej] at hcc hgg
        rw [hgg.1] at hu
        rw [hcc.1, ← hu]
      · have ej : j / 2 * 2 + 1 = j := by omega
        have ej2 : off + j / 2 * 2 + 1 = off + j := by omega
        rw [ej] at hgg
        rw [ej2] at hcc
        rw [hgg.2] at hu
        rw [hcc.2, ← hu]
    · intro v' w' hown' hg _
      refine h v' w' ?_ ?_ fun k hk hne => hg.block k hk (fun e => hne e.symm)
      · unfold Own
        rw [spc_append]
        simpa using hown'
      · exact (Below.refl base w).grown hg hbase fun k hk => (hown.lt k hk).1

/-- block g is one boxed span -/
def Blk2 (w : World) (g : Nat) (x y : Value) : Prop := w.heap[g]? = some (.cells #[x, y] 57 (0, 0))
theorem Blk2.new (w : World) (x y : Value) : Blk2 (w.alloc (.cells #[x, y] 57)) w.heap.size x y := heap_alloc_new w _
theorem Blk2.lt {w : World} {g : Nat} {x y : Value} (h : Blk2 w g x y) : g < w.heap.size := by
  rcases Nat.lt_or_ge g w.heap.size with hlt | hge
  · exact hlt
  · unfold Blk2 at h; rw [Array.getElem?_eq_none hge] at h; cases h
theorem Blk2.cell0 {w : World} {g : Nat} {x y : Value} (h : Blk2 w g x y) : w.cell? ⟨g, 0, none⟩ = some x := by unfold Blk2 at h; simp [World.cell?, h]
theorem Blk2.cell1 {w : World} {g : Nat} {x y : Value} (h : Blk2 w g x y) : w.cell? ⟨g, 1, none⟩ = some y := by unfold Blk2 at h; simp [World.cell?, h]
theorem Blk2.frozen0 {w : World} {g : Nat} {x y : Value} (h : Blk2 w g x y) (i : Nat) : w.frozen? ⟨g, i, none⟩ = false := by unfold Blk2 at h; simp [World.frozen?, h]
theorem Blk2.set0 {w : World} {g : Nat} {x y : Value} (h : Blk2 w g x y) (u : Value) : Blk2 (w.setCell ⟨g, 0, none⟩ u) g u y := by
  unfold Blk2 at h ⊢; simp [World.setCell, Array.getElem?_modify, h]
theorem Blk2.set1 {w : World} {g : Nat} {x y : Value} (h : Blk2 w g x y) (u : Value) : Blk2 (w.setCell ⟨g, 1, none⟩ u) g x u := by
  unfold Blk2 at h ⊢; simp [World.setCell, Array.getElem?_modify, h]
theorem Blk2.below {w w' : World} {B g : Nat} {x y : Value} (h : Blk2 w g x y) (hb : Below B w w') (hg : g < B) : Blk2 w' g x y := (hb.block g hg).trans h
theorem Blk2.alloc {w : World} {g : Nat} {x y : Value} (h : Blk2 w g x y) (o : Obj) : Blk2 (w.alloc o) g x y := (Below.heap_alloc w o g h.lt).trans h
theorem Blk2.far {w : World} {g : Nat} {x y : Value} (h : Blk2 w g x y) {p : Addr} (hp : g ≠ p.block) (u : Value) : Blk2 (w.setCell p u) g x y := (Below.heap_setCell w p u g hp).trans h
theorem Own.mono {w : World} {base base' : Nat} {v : Value} {l : List Sp} (h : Own w base v l) (hb : base' ≤ base) : Own w base' v l := by
  refine ⟨h.1, ?_⟩
  rcases h.2 with h1 | ⟨g, cap, cur, rfl, hg, rest⟩
  · exact .inl h1
  · exact .inr ⟨g, cap, cur, rfl, Nat.le_trans hb hg, rest⟩
theorem cell_two0 (w : World) (o : Obj) (x y : Value) : ((w.alloc o).alloc (.cells #[x, y] 57)).cell? ⟨w.heap.size + 1, 0, none⟩ = some x := by
  simp
theorem cell_two1 (w : World) (o : Obj) (x y : Value) : ((w.alloc o).alloc (.cells #[x, y] 57)).cell? ⟨w.heap.size + 1, 1, none⟩ = some y := by
  simp
theorem cell_one0 (w : World) (x y : Value) : (w.alloc (.cells #[x, y] 57)).cell? ⟨w.heap.size, 0, none⟩ = some x := (Blk2.new w x y).cell0
theorem cell_one1 (w : World) (x y : Value) : (w.alloc (.cells #[x, y] 57)).cell? ⟨w.heap.size, 1, none⟩ = some y := (Blk2.new w x y).cell1
theorem own_cast {w : World} {base : Nat} {v : Value} {l l' : List Sp} (h : Own w base v l) (e : l = l') : Own w base v l' := e ▸ h
theorem run_max_i64 (P : Program) (ts : Array TypeId) (t : TypeId) (x y : Int) (w : World) : (Builtin.max_ ts t #[.int .i64 x, .int .i64 y]).run P w = .ok (.int .i64 (max x y)) w := by
  have : (if y > x then y else x) = max x y := by split <;> omega
  simp [Builtin.max_, Builtin.max2, this]
theorem run_min_i64 (P : Program) (ts : Array TypeId) (t : TypeId) (x y : Int) (w : World) : (Builtin.min_ ts t #[.int .i64 x, .int .i64 y]).run P w = .ok (.int .i64 (min x y)) w := by
  have : (if y < x then y else x) = min x y := by split <;> omega
  simp [Builtin.min_, Builtin.min2, this]
theorem ext_of_below {a b c : World} (h : Ext a b) (k : Below b.heap.size b c) : Ext a c := h.trans k

end Go.Proofs.YtpgkdhhlcpgjcaaGreatDoor
