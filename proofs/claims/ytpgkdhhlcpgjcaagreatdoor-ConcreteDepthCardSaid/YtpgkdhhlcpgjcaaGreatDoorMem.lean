import Derived.Test.YtpgkdhhlcpgjcaaGreatDoorProg
import Derived.Test.YtpgkdhhlcpgjcaaGreatDoorMath0
import Derived.WalkKit
import Derived.Maps.AppendAt
import Derived.Laws.OwnMore
import Derived.Deep.AppendLies
import Derived.Deep.Draws
/-
  How spans and sets of numbers lie in memory; the order between worlds: whatever was there stands as it stood.
-/
namespace Go.Proofs.YtpgkdhhlcpgjcaaGreatDoor
open Go.RowKit

/-- whatever was there in w is there in w' as it was -/
def Ext (w w' : World) : Prop := Below w.heap.size w w'
theorem Ext.refl (w : World) : Ext w w := Below.refl _ _
theorem Ext.size {w w' : World} (h : Ext w w') : w.heap.size ≤ w'.heap.size := Below.size h
theorem Ext.trans {a b c : World} (h : Ext a b) (k : Ext b c) : Ext a c := Below.trans h (Below.mono k h.size)
theorem Ext.below {a b : World} {B : Nat} (h : Ext a b) (hB : B ≤ a.heap.size) : Below B a b := Below.mono h hB
theorem Ext.alloc {a b : World} (h : Ext a b) (o : Obj) : Ext a (b.alloc o) := Below.alloc h h.size o
theorem Ext.drew {a b : World} (h : Ext a b) : Ext a b.drew := Below.drew h
theorem Ext.drewN {a b : World} (h : Ext a b) (n : Nat) : Ext a (b.drewN n) := ⟨h.os, h.tape, h.output, h.size, h.block⟩
theorem Ext.drawn {a b : World} (h : Ext a b) (n : Nat) : Ext a { b with drawn := n } := ⟨h.os, h.tape, h.output, h.size, h.block⟩
theorem Ext.setCell {a b : World} (h : Ext a b) {p : Addr} (hp : a.heap.size ≤ p.block) (u : Value) : Ext a (b.setCell p u) := Below.setCell h hp u
theorem Ext.of_eq {a b : World} (h : a = b) : Ext a b := h ▸ Ext.refl _
theorem Ext.cell {a b : World} (h : Ext a b) : ∀ p : Addr, p.block < a.heap.size → b.cell? p = a.cell? p := fun _ hp => Below.cell h hp
/-- the two facts by which the walk reads old cells in a new world -/
theorem Ext.cells {a b : World} (h : Ext a b) : (∀ k o, k < a.heap.size → b.cell? ⟨k, o, none⟩ = a.cell? ⟨k, o, none⟩) ∧ (∀ k o, k < a.heap.size → b.frozen? ⟨k, o, none⟩ = a.frozen? ⟨k, o, none⟩) :=
  ⟨fun k o hk => Below.cell h (p := ⟨k, o, none⟩) hk, fun k o hk => Below.frozen h (p := ⟨k, o, none⟩) hk⟩

abbrev Sp := Int × Int

/-- the slice value of length l.length at A holds the spans l, in blocks below B -/
def SlAt (w : World) (B : Nat) (A : Option Addr) (l : List Sp) : Prop :=
  l ≠ [] → ∃ b off, A = some ⟨b, off, none⟩ ∧ b < B ∧ ∀ (k : Nat) (s : Sp), l[k]? = some s →
    w.cell? ⟨b, off + k * 2, none⟩ = some (.int .i64 s.1) ∧ w.cell? ⟨b, off + k * 2 + 1, none⟩ = some (.int .i64 s.2)

section
variable {w w' : World} {B B' : Nat} {A : Option Addr} {l : List Sp}
theorem SlAt.nil (w : World) (B : Nat) (A : Option Addr) : SlAt w B A [] := fun h => absurd rfl h
theorem SlAt.keep (h : SlAt w B A l) (hk : ∀ p : Addr, p.block < B → w'.cell? p = w.cell? p) : SlAt w' B A l := fun hl => by
  obtain ⟨b, off, e, hb, hc⟩ := h hl
  exact ⟨b, off, e, hb, fun k s hs => ⟨(hk _ hb).trans (hc k s hs).1, (hk _ hb).trans (hc k s hs).2⟩⟩
theorem SlAt.mono (h : SlAt w B A l) (hB : B ≤ B') : SlAt w B' A l := fun hl => by
  obtain ⟨b, off, e, hb, hc⟩ := h hl
  exact ⟨b, off, e, by omega, hc⟩
theorem SlAt.below (h : SlAt w B A l) (hb : Below B w w') : SlAt w' B A l := h.keep fun _ hp => hb.cell hp
theorem SlAt.ext (h : SlAt w w.heap.size A l) (hb : Ext w w') : SlAt w' w'.heap.size A l := (h.below hb).mono hb.size
theorem SlAt.ext' (h : SlAt w B A l) (hB : B ≤ w.heap.size) (hb : Ext w w') : SlAt w' B A l := h.keep fun p hp => hb.cell p (by omega)
theorem SlAt.drew (h : SlAt w B A l) : SlAt w.drew B A l := h
theorem SlAt.alloc (h : SlAt w B A l) (hB : B ≤ w.heap.size) (o : Obj) : SlAt (w.alloc o) B A l := h.keep fun p hp => World.cell?_alloc_lt w o p (by omega)
theorem SlAt.setCell (h : SlAt w B A l) {p : Addr} (hB : B ≤ p.block) (u : Value) : SlAt (w.setCell p u) B A l :=
  h.keep fun q hq => World.cell?_setCell_other w p q u (fun e => by subst e; omega)
/-- a store into a cell that holds no integer leaves the spans alone -/
theorem SlAt.setOther (h : SlAt w B A l) {p : Addr} {v : Value} (hp : w.cell? p = some v) (hv : ∀ k n, v ≠ .int k n) (u : Value) : SlAt (w.setCell p u) B A l := fun hl => by
  obtain ⟨b, off, e, hb, hc⟩ := h hl
  refine ⟨b, off, e, hb, fun k s hs => ⟨?_, ?_⟩⟩
  · rw [World.cell?_setCell_other w p _ u (fun e => by subst e; rw [(hc k s hs).1] at hp; injection hp with hp; exact hv _ _ hp.symm)]
    exact (hc k s hs).1
  · rw [World.cell?_setCell_other w p _ u (fun e => by subst e; rw [(hc k s hs).2] at hp; injection hp with hp; exact hv _ _ hp.symm)]
    exact (hc k s hs).2
/-- the cells of one element, at an index below the length -/
theorem SlAt.at_ {k : Nat} (h : SlAt w B A l) (hk : k < l.length) : ∃ b off, A = some ⟨b, off, none⟩ ∧ b < B ∧
    w.cell? ⟨b, off + k * 2, none⟩ = some (.int .i64 l[k].1) ∧ w.cell? ⟨b, off + k * 2 + 1, none⟩ = some (.int .i64 l[k].2) := by
  obtain ⟨b, off, e, hb, hc⟩ := h (fun e => by subst e; simp at hk)
  exact ⟨b, off, e, hb, hc k l[k] (List.getElem?_eq_getElem hk)⟩
end

/-- the value v, in the world w, is the set d -/
def NmAt (w : World) (v : Value) (d : Nm) : Prop :=
  ∃ A c A' c', v = .agg #[.slice A d.ints.length c, .slice A' d.fracs.length c'] ∧ SlAt w w.heap.size A d.ints ∧ SlAt w w.heap.size A' d.fracs
theorem NmAt.ext {w w' : World} {v : Value} {d : Nm} (h : NmAt w v d) (hb : Ext w w') : NmAt w' v d := by
  obtain ⟨A, c, A', c', e, h1, h2⟩ := h
  exact ⟨A, c, A', c', e, h1.ext hb, h2.ext hb⟩
/-- a slice of spans, as a value -/
def SpAt (w : World) (v : Value) (l : List Sp) : Prop := ∃ A c, v = .slice A l.length c ∧ SlAt w w.heap.size A l
theorem SpAt.ext {w w' : World} {v : Value} {l : List Sp} (h : SpAt w v l) (hb : Ext w w') : SpAt w' v l := by
  obtain ⟨A, c, e, h1⟩ := h
  exact ⟨A, c, e, h1.ext hb⟩

/-- the cells of spans, one after the other -/
def spc (l : List Sp) : List Value := l.flatMap fun s => [.int .i64 s.1, .int .i64 s.2]
theorem spc_nil : spc [] = [] := rfl
theorem spc_append (a b : List Sp) : spc (a ++ b) = spc a ++ spc b := by simp [spc]
theorem spc_one (s : Sp) : spc [s] = [.int .i64 s.1, .int .i64 s.2] := rfl
theorem spc_length (l : List Sp) : (spc l).length = l.length * 2 := by
  induction l with
  | nil => rfl
  | cons s l ih => simp [spc] at ih ⊢; omega
theorem spc_get : ∀ (l : List Sp) (k : Nat) (s : Sp), l[k]? = some s → (spc l)[k * 2]? = some (.int .i64 s.1) ∧ (spc l)[k * 2 + 1]? = some (.int .i64 s.2)
  | [], _, _, h => by simp at h
  | x :: l, 0, s, h => by simp at h; subst h; simp [spc]
  | x :: l, k + 1, s, h => by
    have := spc_get l k s (by simpa using h)
    have e : spc (x :: l) = [.int .i64 x.1, .int .i64 x.2] ++ spc l := rfl
    rw [e, List.getElem?_append_right (by simp; omega), List.getElem?_append_right (by simp; omega)]
    simp only [List.length_cons, List.length_nil]
    rw [show (k + 1) * 2 - (0 + 1 + 1) = k * 2 by omega, show (k + 1) * 2 + 1 - (0 + 1 + 1) = k * 2 + 1 by omega]
    exact this
theorem spc_oneCell (l : List Sp) : ∀ u ∈ spc l, u.oneCell' = true := by
  intro u hu
  simp only [spc, List.mem_flatMap] at hu
  obtain ⟨s, _, hs⟩ := hu
  simp at hs
  rcases hs with rfl | rfl <;> rfl

/-- a row of the call's own reads as its spans -/
theorem SlAt.of_own {w : World} {base : Nat} {e : TypeId} {A : Option Addr} {n c : Nat} {l : List Sp} (h : w.ownsRow base e 2 (.slice A n c) n (spc l)) : SlAt w w.heap.size A l := fun hl => by
  have hn : 0 < n := by
    have h1 := h.1
    rw [spc_length] at h1
    have : 0 < l.length := List.length_pos_iff.2 hl
    omega
  obtain ⟨g, cap, hv, _, hlt⟩ := h.form hn
  have hA : A = some ⟨g, 0, none⟩ := by injection hv
  subst hA
  have hc := h.cells (g := g) rfl
  refine ⟨g, 0, rfl, hlt, fun k s hs => ?_⟩
  have hg := spc_get l k s hs
  have hadd : ∀ j, (⟨g, 0, none⟩ : Addr).add j = ⟨g, 0 + j, none⟩ := fun j => by
    unfold Addr.add
    split
    · rename_i h0; subst h0; rfl
    · rfl
  have h1 := hc _ _ hg.1
  have h2 := hc _ _ hg.2
  rw [hadd] at h1 h2
  exact ⟨h1, h2⟩
end Go.Proofs.YtpgkdhhlcpgjcaaGreatDoor
