import Derived.Test.YtaianhhmmacblaaRel
import Derived.Test.YtaianhhmmacblaaOwn
/-
  The operations of a region that draws its order, one law for each kind.
-/
namespace Go.Proofs.Ytaianhhmmacblaa
open Go Go.RowKit

section
variable {P : Program} {ops : Array Oper} {a0 : Act} {w1 : World} {Q : Exit → Act → World → Prop} {K : Act → World → Prop} {o : Oper} {rest : List Oper}
  {acc : List (Option Tmp × Spec)} {env : Tmp → Spec}

/-- an operation whose value does not hang on the world -/
theorem rel_pure (v : Value)
    (h : ∀ a w (K' : Act → World → Prop), Ext w1 w → (∀ t ∈ o.looksAt ops, env t (a.tmps.getD t undef) w) → (∀ u, u = v → K' (a.put o.dst u) w) →
      if Region.wanted o (yielded ops a.tmps) then o.wp P a w K' Q else undef = v)
    (hrest : relSeq P ops Ext a0 w1 Q K rest (acc ++ [(o.dst, fun u _ => u = v)]) (upd env o.dst (fun u _ => u = v))) :
    relSeq P ops Ext a0 w1 Q K (o :: rest) acc env :=
  ⟨fun u _ => u = v, fun _ _ _ h _ => h, fun a w hE he => h a w _ hE he fun u hu => ⟨u, rfl, Ext.refl w, hu⟩, hrest⟩

/-- an operation under any specification -/
theorem rel_any (R : Spec) (hR : ∀ v w w', R v w → Ext w w' → R v w')
    (h : ∀ a w (K' : Act → World → Prop), Ext w1 w → (∀ t ∈ o.looksAt ops, env t (a.tmps.getD t undef) w) → (∀ u w', Ext w w' → R u w' → K' (a.put o.dst u) w') →
      if Region.wanted o (yielded ops a.tmps) then o.wp P a w K' Q else R undef w)
    (hrest : relSeq P ops Ext a0 w1 Q K rest (acc ++ [(o.dst, R)]) (upd env o.dst R)) :
    relSeq P ops Ext a0 w1 Q K (o :: rest) acc env :=
  ⟨R, hR, fun a w hE he => h a w _ hE he fun u _ hE' hu => ⟨u, rfl, hE', hu⟩, hrest⟩

theorem relSeq_nil (h : ∀ w, Ext w1 w → fin K acc a0 w) : relSeq P ops Ext a0 w1 Q K [] acc env := h
end

/-- a slice that was built of one span -/
def Sl1 (x y : Int) : Spec := fun v w => ∃ g, v = .slice (some ⟨g, 0, none⟩) 1 1 ∧ Blk2 w g (.int .i64 x) (.int .i64 y)
theorem Sl1.stable (x y : Int) : ∀ v w w', Sl1 x y v w → Ext w w' → Sl1 x y v w' := fun _ _ _ ⟨g, e, h⟩ hE => ⟨g, e, h.below hE h.lt⟩

/-- a block that holds one set of numbers -/
def BlkN (w : World) (g : Nat) (x y : Value) : Prop := w.heap[g]? = some (.cells #[x, y] 24 (0, 0))
section
variable {w w' : World} {g : Nat} {x y : Value}
theorem BlkN.new (w : World) (x y : Value) : BlkN (w.alloc (.cells #[x, y] 24)) w.heap.size x y := heap_alloc_new w _
theorem BlkN.lt (h : BlkN w g x y) : g < w.heap.size := by
  rcases Nat.lt_or_ge g w.heap.size with hlt | hge
  · exact hlt
  · unfold BlkN at h; rw [Array.getElem?_eq_none hge] at h; cases h
theorem BlkN.cell0 (h : BlkN w g x y) : w.cell? ⟨g, 0, none⟩ = some x := by unfold BlkN at h; simp [World.cell?, h]
theorem BlkN.cell1 (h : BlkN w g x y) : w.cell? ⟨g, 1, none⟩ = some y := by unfold BlkN at h; simp [World.cell?, h]
theorem BlkN.frozen0 (h : BlkN w g x y) (i : Nat) : w.frozen? ⟨g, i, none⟩ = false := by unfold BlkN at h; simp [World.frozen?, h]
theorem BlkN.set0 (h : BlkN w g x y) (u : Value) : BlkN (w.setCell ⟨g, 0, none⟩ u) g u y := by
  unfold BlkN at h ⊢; simp [World.setCell, Array.getElem?_modify, h]
theorem BlkN.set1 (h : BlkN w g x y) (u : Value) : BlkN (w.setCell ⟨g, 1, none⟩ u) g x u := by
  unfold BlkN at h ⊢; simp [World.setCell, Array.getElem?_modify, h]
theorem BlkN.below {B : Nat} (h : BlkN w g x y) (hb : Below B w w') (hg : g < B) : BlkN w' g x y := (hb.block g hg).trans h
theorem BlkN.ext (h : BlkN w g x y) (hb : Ext w w') : BlkN w' g x y := h.below hb h.lt
theorem BlkN.alloc (h : BlkN w g x y) (o : Obj) : BlkN (w.alloc o) g x y := (Below.heap_alloc w o g h.lt).trans h
theorem BlkN.far (h : BlkN w g x y) {p : Addr} (hp : g ≠ p.block) (u : Value) : BlkN (w.setCell p u) g x y := (Below.heap_setCell w p u g hp).trans h
theorem BlkN.drew (h : BlkN w g x y) : BlkN w.drew g x y := h
end
/-- a set of numbers stored into the result's box, cell by cell -/
theorem nm_store {w0 w : World} {g : Nat} {A A' : Option Addr} {c c' : Nat} {d : Nm} (hb : BlkN w g (.slice none 0 0) (.slice none 0 0)) (h1 : SlAt w w.heap.size A d.ints) (h2 : SlAt w w.heap.size A' d.fracs)
    (hE : Ext w0 w) (hg : w0.heap.size ≤ g) :
    NmAt ((w.setCell ⟨g, 0, none⟩ (.slice A d.ints.length c)).setCell ⟨g, 1, none⟩ (.slice A' d.fracs.length c')) (.agg #[.slice A d.ints.length c, .slice A' d.fracs.length c']) d ∧
    Ext w0 ((w.setCell ⟨g, 0, none⟩ (.slice A d.ints.length c)).setCell ⟨g, 1, none⟩ (.slice A' d.fracs.length c')) ∧
    ((w.setCell ⟨g, 0, none⟩ (.slice A d.ints.length c)).setCell ⟨g, 1, none⟩ (.slice A' d.fracs.length c')).cell? ⟨g, 0, none⟩ = some (.slice A d.ints.length c) ∧
    ((w.setCell ⟨g, 0, none⟩ (.slice A d.ints.length c)).setCell ⟨g, 1, none⟩ (.slice A' d.fracs.length c')).cell? ⟨g, 1, none⟩ = some (.slice A' d.fracs.length c') := by
  have hb1 := hb.set0 (.slice A d.ints.length c)
  have hb2 := hb1.set1 (.slice A' d.fracs.length c')
  refine ⟨⟨A, c, A', c', rfl, ?_, ?_⟩, (hE.setCell hg _).setCell hg _, hb2.cell0, hb2.cell1⟩
  · exact ((h1.setOther hb.cell0 (by simp) _).setOther hb1.cell1 (by simp) _).mono (by simp [World.setCell])
  · exact ((h2.setOther hb.cell0 (by simp) _).setOther hb1.cell1 (by simp) _).mono (by simp [World.setCell])

theorem Blk2.ext {w w' : World} {g : Nat} {x y : Value} (h : Blk2 w g x y) (hb : Ext w w') : Blk2 w' g x y := h.below hb h.lt
theorem Blk2.drew {w : World} {g : Nat} {x y : Value} (h : Blk2 w g x y) : Blk2 w.drew g x y := h
end Go.Proofs.Ytaianhhmmacblaa
