import Derived.Test.YtaianhhmmacblaaLawFns
import Derived.Test.YtaianhhmmacblaaSets3
import Derived.Deep.SlicePairs
import Derived.Lib.SmallJoins
/-
  The arguments of the laws, opened: a value of api.Nums that came in.
-/
namespace Go.Proofs.Ytaianhhmmacblaa
open Go.ChangeShapes Go.WideShapes Go.ChangeAt Go.RowKit Go.Joins Go.Deep

theorem int_rng {x : Int} (h : (Lit.int .i64 x).wf = true) : -9223372036854775808 ≤ x ∧ x ≤ 9223372036854775807 := by
  unfold Lit.wf at h
  rw [Bool.and_eq_true, decide_eq_true_eq, decide_eq_true_eq] at h
  exact h
theorem add_spot {w : World} {a : Addr} {v : Value} (h : w.cell? a = some v) : a = ⟨a.block, a.off, none⟩ ∧ a.block < w.heap.size := by
  obtain ⟨b, o, s⟩ := a
  unfold World.cell? at h
  cases hb : w.heap[b]? with
  | none => rw [hb] at h; cases h
  | some x =>
    rw [hb] at h
    have hlt := (Array.getElem?_eq_some_iff.1 hb).1
    cases x with
    | cells c _ _ =>
      cases s with
      | none => exact ⟨rfl, hlt⟩
      | some s => simp at h
    | _ => cases h
theorem open_spans {H : Type} {enc : TypeId × Value → H} {w : World} {base : Nat} {spare : Nat → Bool} {held : Bool} {n : Nat} {c : Value} {y : DataW H × List MemPlace}
    (h : DataW.trod enc Try.prog w base spare held n 22 [c] = some y) : ∃ A l cap, c = .slice A (List.length l) cap ∧ SlAt w w.heap.size A l ∧ InR l := by
  rcases open_slice_pairs Try.underlying22 Try.underlying45 (by kernel_rfl) rfl rfl (by kernel_rfl) (by kernel_rfl) h with ⟨hc, _⟩ | ⟨a, len, cap, m, k, V0, V1, D0, D1, P0, P1, hc, _, hlc, _, hm, _, hx⟩
  · injection hc with hc
    exact ⟨none, [], 0, hc, SlAt.nil _ _ _, fun _ h => (by cases h)⟩
  · injection hc with hc
    have hlm : len ≤ m := by rw [hm]; split <;> omega
    have each : ∀ i, ∃ q : Int × Int, i < len → w.cell? (a.add (i * 2)) = some (.int .i64 q.1) ∧ w.cell? (a.add (i * 2 + 1)) = some (.int .i64 q.2) ∧
        (-9223372036854775808 ≤ q.1 ∧ q.1 ≤ 9223372036854775807 ∧ -9223372036854775808 ≤ q.2 ∧ q.2 ≤ 9223372036854775807) := by
      intro i
      by_cases hi : i < len
      · obtain ⟨h0, h1, t0, t1⟩ := hx i (by omega)
        obtain ⟨x, e0, _, w0⟩ := DataW.trod_int Try.underlying2 t0
        obtain ⟨z, e1, _, w1⟩ := DataW.trod_int Try.underlying2 t1
        simp at e0 e1
        refine ⟨(x, z), fun _ => ⟨by rw [h0, e0], by rw [h1, e1], ?_⟩⟩
        have r0 := int_rng w0
        have r1 := int_rng w1
        exact ⟨r0.1, r0.2, r1.1, r1.2⟩
      · exact ⟨(0, 0), fun h => absurd h hi⟩
    obtain ⟨f, hfs⟩ := Classical.axiomOfChoice each
    refine ⟨some a, (List.range len).map f, cap, by simpa using hc, ?_, ?_⟩
    · intro hne
      have hpos : 0 < len := by
        rcases Nat.eq_zero_or_pos len with h0 | h0
        · subst h0; exact absurd rfl hne
        · exact h0
      have hf := hfs 0 hpos
      have ha : a.add (0 * 2) = a := by unfold Addr.add; rfl
      rw [ha] at hf
      obtain ⟨hs, hlt⟩ := add_spot hf.1
      refine ⟨a.block, a.off, by rw [← hs], hlt, fun k s hk => ?_⟩
      rw [List.getElem?_map] at hk
      have hkl : k < len := by
        rcases Nat.lt_or_ge k len with h | h
        · exact h
        · rw [List.getElem?_eq_none (by simpa using h)] at hk; cases hk
      rw [List.getElem?_range hkl] at hk
      simp at hk
      obtain ⟨c0, c1, _⟩ := hfs k hkl
      rw [hk] at c0 c1
      have hadd : ∀ j, a.add j = ⟨a.block, a.off + j, none⟩ := fun j => by
        unfold Addr.add
        split
        · rename_i h0; subst h0; exact hs
        · rfl
      rw [hadd] at c0 c1
      exact ⟨c0, c1⟩
    · intro s hs
      obtain ⟨i, hi, rfl⟩ := List.mem_map.1 hs
      exact (hfs i (by simpa using hi)).2.2
theorem open_nums {H : Type} {enc : TypeId × Value → H} {w : World} {base : Nat} {spare : Nat → Bool} {held : Bool} {r : Reach} {b0 : Nat} {v : Value} {dt : DataW H} {p : List MemPlace}
    (hv : Value.okWide Try.prog w r b0 24 v) (h : DataW.Trod enc Try.prog w base spare held 24 v dt p) : ∃ d, NmAt w v d ∧ InR d.fracs := by
  obtain ⟨c0, c1, y0, y1, n, rfl, _, _, h0, h1⟩ := open_agg2 Try.underlying24 (by kernel_rfl) (by kernel_rfl) hv h
  obtain ⟨A, l, c, rfl, s0, _⟩ := open_spans h0
  obtain ⟨A', l', c', rfl, s1, r1⟩ := open_spans h1
  exact ⟨⟨l, l'⟩, ⟨A, c, A', c', rfl, s0, s1⟩, r1⟩
theorem inr_can {d : Nm} (h : CanN d) : InR d.fracs := fun s hs => by
  have := can_fr h hs
  unfold vld at this
  omega
end Go.Proofs.Ytaianhhmmacblaa
