import Derived.Test.YtaianhhmmacblaaLawFns
/-
  The laws' examples: alive returns true.
-/
namespace Go.Proofs.Ytaianhhmmacblaa
open Go.RowKit

theorem eqS_refl (x : ByteArray) : eqS x x = true := by unfold eqS; simp
theorem opsL_any {x : ByteArray} (h : x ∈ opsL) : opsL.any (eqS x) = true := List.any_eq_true.2 ⟨x, h, eqS_refl x⟩
theorem boundP_lt : boundP opLt 15000 = (makeR (lessN 15000), 0) := by
  unfold boundP
  rw [opsL_any (by simp [opsL]), show validB 15000 = true by decide]
  unfold boundS
  rw [eqS_refl]
  rfl
def opBad : ByteArray := ⟨#[61]⟩
theorem tl_bad : opBad.toList = [61] := by simp [opBad]
theorem boundP_bad : boundP opBad 1 = (⟨[], []⟩, 8) := by
  unfold boundP
  have : opsL.any (eqS opBad) = false := by
    simp [opsL, eqS, tl_bad, tl_lt, tl_le, tl_gt, tl_ge, tl_eq, tl_ne]
  rw [this]
  rfl
theorem boundP_far : boundP opNe 1000000000000001 = (⟨[], []⟩, 1) := by
  unfold boundP
  rw [opsL_any (by simp [opsL]), show validB 1000000000000001 = false by decide]
  rfl
theorem sl_two {w : World} {g B : Nat} {a b c d : Int} (h : w.heap[g]? = some (.cells #[.int .i64 a, .int .i64 b, .int .i64 c, .int .i64 d] 45 (0, 0))) (hg : g < B) : SlAt w B (some ⟨g, 0, none⟩) [(a, b), (c, d)] := fun _ => by
  refine ⟨g, 0, rfl, hg, fun k s hs => ?_⟩
  match k, hs with
  | 0, hs => simp at hs; subst hs; exact ⟨by simp [World.cell?, h], by simp [World.cell?, h]⟩
  | 1, hs => simp at hs; subst hs; exact ⟨by simp [World.cell?, h], by simp [World.cell?, h]⟩
def lN : Nm := andP (makeR (lessN 15000)) intsN
theorem lN_inr : InR lN.fracs := InR.of_bdd (makeR_bddF _)
theorem allN_inr : InR allN.fracs := fun s hs => by simp [allN] at hs; subst hs; simp only; omega
theorem nm_nil (w : World) : NmAt w (.agg #[.slice none 0 0, .slice none 0 0]) ⟨[], []⟩ := ⟨none, 0, none, 0, rfl, SlAt.nil _ _ _, SlAt.nil _ _ _⟩
theorem l_has1 : hasP lN 10000 = true := by decide +kernel
theorem l_has2 : hasP lN 0 = true := by decide +kernel
theorem l_has3 : hasP lN 20000 = false := by decide +kernel
theorem l_has4 : hasP lN 5000 = false := by decide +kernel
theorem two_same : sameN (makeR ⟨[(2, 2), (1, 1)], []⟩) ⟨[(1, 2)], []⟩ = true := by decide +kernel
theorem least_ex : leastP ⟨[(-3, -1)], []⟩ = (-10000, true) := by decide +kernel
theorem joined_same : sameN (makeR ⟨[], [(0, 10000), (10000, 20000)]⟩) ⟨[], [(1, 19999)]⟩ = true := by decide +kernel
theorem cmp_ex : cmpP ⟨[], []⟩ allN = 1 := by decide +kernel
theorem count_ex : countP ⟨[], [(0, 10000)]⟩ = 9999 := by decide +kernel

end Go.Proofs.Ytaianhhmmacblaa
