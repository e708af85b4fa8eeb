import Derived.Test.YtaianhhmmacblaaMath2
/-
  The reference's sets, as functions of sets of spans; their sizes and their ranges.
-/
namespace Go.Proofs.Ytaianhhmmacblaa

/-- a set of numbers: its spans of integers and of other numbers -/
structure Nm where
  ints : List (Int × Int)
  fracs : List (Int × Int)
  deriving DecidableEq
/-- at most n spans of each kind -/
def Sz (n : Nat) (d : Nm) : Prop := d.ints.length ≤ n ∧ d.fracs.length ≤ n
theorem Sz.mono {n m : Nat} {d : Nm} (h : Sz n d) (k : n ≤ m) : Sz m d := ⟨Nat.le_trans h.1 k, Nat.le_trans h.2 k⟩

def makeR (d : Nm) : Nm := ⟨intsR d.ints, (fracsR d.fracs).map unrankS⟩
def notR (d : Nm) : Nm := ⟨gapsR (intsR d.ints) (-100000000000) 100000000000, (gapsR (fracsR d.fracs) (-999900000000000) 999899999999999).map unrankS⟩
def orR (a b : Nm) : Nm := makeR ⟨a.ints ++ b.ints, a.fracs ++ b.fracs⟩
def andR (a b : Nm) : Nm := notR (orR (notR a) (notR b))
def minusR (a b : Nm) : Nm := andR a (notR b)
def emptyR (a : Nm) : Bool := decide (makeR a = ⟨[], []⟩)
def subsetR (a b : Nm) : Bool := emptyR (minusR a b)
def sameN (a b : Nm) : Bool := decide (a = b)
def validNR (a : Nm) : Bool := sameN a (makeR a)
def allN : Nm := ⟨[(-100000000000, 100000000000)], [(-999999999999999, 999999999999999)]⟩
def intsN : Nm := ⟨[(-100000000000, 100000000000)], []⟩

/-- the ends of the result are ends of the arguments -/
theorem nfold_ends (p : Int → Prop) : ∀ (out : List (Int × Int)) (st : NSt), (∀ s ∈ out, p s.1 ∧ p s.2) → (∀ s ∈ st.1, p s.1 ∧ p s.2) → (p st.2.2.1 ∧ p st.2.2.2) →
    (∀ s ∈ (out.foldl nstep st).1, p s.1 ∧ p s.2) ∧ (p (out.foldl nstep st).2.2.1 ∧ p (out.foldl nstep st).2.2.2)
  | [], st, _, h1, h2 => ⟨h1, h2⟩
  | x :: out, st, ho, h1, h2 => by
    have hx := ho x (by simp)
    refine nfold_ends p out (nstep st x) (fun y hy => ho y (by simp [hy])) ?_ ?_
    · unfold nstep
      split
      · intro s hs; simp at hs; rcases hs with hs | rfl
        · exact h1 s hs
        · exact hx
      · split
        · split
          · intro s hs; simp at hs; rcases hs with hs | rfl
            · exact h1 s hs
            · exact hx
          · intro s hs; simp at hs; rcases hs with hs | rfl | rfl
            · exact h1 s hs
            · exact h2
            · exact hx
        · exact h1
    · unfold nstep
      split
      · exact h2
      · split
        · split
          · exact h2
          · exact h2
        · simp only
          refine ⟨?_, ?_⟩
          · by_cases h : st.2.2.1 ≤ x.1
            · rw [Int.min_eq_left h]; exact h2.1
            · rw [Int.min_eq_right (by omega)]; exact hx.1
          · by_cases h : st.2.2.2 ≤ x.2
            · rw [Int.max_eq_right h]; exact hx.2
            · rw [Int.max_eq_left (by omega)]; exact h2.2
theorem nins_ends (p : Int → Prop) (out : List (Int × Int)) (s : Int × Int) (ho : ∀ s ∈ out, p s.1 ∧ p s.2) (hs : s.1 ≤ s.2 → p s.1 ∧ p s.2) : ∀ x ∈ nins out s, p x.1 ∧ p x.2 := by
  unfold nins
  split
  · exact ho
  · have hs := hs (by omega)
    have := nfold_ends p out ([], false, s) ho (by simp) hs
    unfold nfold
    simp only
    split
    · exact this.1
    · intro x hx; simp at hx; rcases hx with hx | rfl
      · exact this.1 x hx
      · exact this.2
theorem normalL_ends (p : Int → Prop) (l : List (Int × Int)) (hl : ∀ s ∈ l, s.1 ≤ s.2 → p s.1 ∧ p s.2) : ∀ x ∈ normalL l, p x.1 ∧ p x.2 := by
  have key : ∀ (l out : List (Int × Int)), (∀ s ∈ l, s.1 ≤ s.2 → p s.1 ∧ p s.2) → (∀ s ∈ out, p s.1 ∧ p s.2) → ∀ x ∈ l.foldl nins out, p x.1 ∧ p x.2 := by
    intro l
    induction l with
    | nil => intro out _ h; exact h
    | cons s l ih => intro out hl ho; exact ih _ (fun y hy => hl y (by simp [hy])) (nins_ends p out s ho (hl s (by simp)))
  exact key l [] hl (by simp)

theorem intsR_len (l : List (Int × Int)) : (intsR l).length ≤ l.length := by
  have := (normalL_facts _ (clampI_bdr l)).2
  rw [List.length_map] at this
  exact this
theorem intsR_bd (l : List (Int × Int)) : Bd (intsR l) := (normalL_facts _ (clampI_bdr l)).1
theorem fracsR_len (l : List (Int × Int)) : (fracsR l).length ≤ l.length := Nat.le_trans (normalL_facts _ (fstep_bd l).1.bdr).2 (fstep_bd l).2
theorem fracsR_bd (l : List (Int × Int)) : Bd (fracsR l) := (normalL_facts _ (fstep_bd l).1.bdr).1
theorem fstep_rng (l : List (Int × Int)) : ∀ s ∈ l.foldl fstep [], (-1000000000000001 ≤ s.1 ∧ s.1 ≤ 1000000000000001) ∧ (-1000000000000001 ≤ s.2 ∧ s.2 ≤ 1000000000000001) := by
  have key : ∀ (l acc : List (Int × Int)), (∀ s ∈ acc, (-1000000000000001 ≤ s.1 ∧ s.1 ≤ 1000000000000001) ∧ (-1000000000000001 ≤ s.2 ∧ s.2 ≤ 1000000000000001)) →
      ∀ s ∈ l.foldl fstep acc, (-1000000000000001 ≤ s.1 ∧ s.1 ≤ 1000000000000001) ∧ (-1000000000000001 ≤ s.2 ∧ s.2 ≤ 1000000000000001) := by
    intro l
    induction l with
    | nil => intro acc h; exact h
    | cons s l ih =>
      intro acc h
      refine ih _ ?_
      unfold fstep
      split
      · rename_i hok
        have hb := clampF_bd s hok
        intro x hx
        simp at hx
        rcases hx with hx | rfl
        · exact h x hx
        · exact ⟨rankI_bd _ (by omega) (by omega), rankI_bd _ (by omega) (by omega)⟩
      · exact h
  exact key l [] (by simp)
theorem fracsR_rng (l : List (Int × Int)) : ∀ s ∈ fracsR l, (-1000000000000001 ≤ s.1 ∧ s.1 ≤ 1000000000000001) ∧ (-1000000000000001 ≤ s.2 ∧ s.2 ≤ 1000000000000001) :=
  normalL_ends (fun x => -1000000000000001 ≤ x ∧ x ≤ 1000000000000001) _ fun s hs _ => fstep_rng l s hs
theorem gfold_rng (B : Int) : ∀ (l : List (Int × Int)) (st : List (Int × Int) × Int), (∀ s ∈ l, (-B ≤ s.1 ∧ s.1 ≤ B) ∧ (-B ≤ s.2 ∧ s.2 ≤ B)) →
    (∀ s ∈ st.1, (-B - 1 ≤ s.1 ∧ s.1 ≤ B + 1) ∧ (-B - 1 ≤ s.2 ∧ s.2 ≤ B + 1)) → (-B - 1 ≤ st.2 ∧ st.2 ≤ B + 1) →
    (∀ s ∈ (l.foldl gstep st).1, (-B - 1 ≤ s.1 ∧ s.1 ≤ B + 1) ∧ (-B - 1 ≤ s.2 ∧ s.2 ≤ B + 1)) ∧ (-B - 1 ≤ (l.foldl gstep st).2 ∧ (l.foldl gstep st).2 ≤ B + 1)
  | [], st, _, h1, h2 => ⟨h1, h2⟩
  | x :: l, st, hl, h1, h2 => by
    have hx := hl x (by simp)
    refine gfold_rng B l (gstep st x) (fun y hy => hl y (by simp [hy])) ?_ (by unfold gstep; simp only; omega)
    unfold gstep
    simp only
    split
    · intro s hs; simp at hs; rcases hs with hs | rfl
      · exact h1 s hs
      · simp only; omega
    · exact h1
theorem gapsR_rng (B : Int) (l : List (Int × Int)) (lo hi : Int) (hl : ∀ s ∈ l, (-B ≤ s.1 ∧ s.1 ≤ B) ∧ (-B ≤ s.2 ∧ s.2 ≤ B)) (h1 : -B ≤ lo) (h2 : lo ≤ B) (h3 : -B ≤ hi) (h4 : hi ≤ B) :
    ∀ s ∈ gapsR l lo hi, (-B - 1 ≤ s.1 ∧ s.1 ≤ B + 1) ∧ (-B - 1 ≤ s.2 ∧ s.2 ≤ B + 1) := by
  have := gfold_rng B l ([], lo) hl (by simp) (by simp only; omega)
  unfold gapsR gfold
  split
  · intro s hs; simp at hs; rcases hs with hs | rfl
    · exact this.1 s hs
    · simp only; omega
  · exact this.1
theorem gapsR_len (l : List (Int × Int)) (lo hi : Int) : (gapsR l lo hi).length ≤ l.length + 1 := by
  have key : ∀ (l : List (Int × Int)) (st : List (Int × Int) × Int), (l.foldl gstep st).1.length ≤ st.1.length + l.length := by
    intro l
    induction l with
    | nil => intro st; simp
    | cons x l ih =>
      intro st
      have h1 := ih (gstep st x)
      have h2 : (gstep st x).1.length ≤ st.1.length + 1 := by unfold gstep; simp only; split <;> simp
      rw [List.foldl_cons, List.length_cons]
      omega
  have := key l ([], lo)
  simp at this
  unfold gapsR gfold
  split
  · simp; omega
  · omega
theorem makeR_sz {n : Nat} {d : Nm} (h : Sz n d) : Sz n (makeR d) := ⟨Nat.le_trans (intsR_len _) h.1, by unfold makeR; simp only [List.length_map]; exact Nat.le_trans (fracsR_len _) h.2⟩
theorem notR_sz {n : Nat} {d : Nm} (h : Sz n d) : Sz (n + 1) (notR d) :=
  ⟨Nat.le_trans (gapsR_len _ _ _) (Nat.succ_le_succ (Nat.le_trans (intsR_len _) h.1)), by unfold notR; simp only [List.length_map]; exact Nat.le_trans (gapsR_len _ _ _) (Nat.succ_le_succ (Nat.le_trans (fracsR_len _) h.2))⟩
theorem cat_sz {n m : Nat} {a b : Nm} (h : Sz n a) (k : Sz m b) : Sz (n + m) ⟨a.ints ++ b.ints, a.fracs ++ b.fracs⟩ :=
  ⟨by simp only [List.length_append]; exact Nat.add_le_add h.1 k.1, by simp only [List.length_append]; exact Nat.add_le_add h.2 k.2⟩
theorem orR_sz {n m : Nat} {a b : Nm} (h : Sz n a) (k : Sz m b) : Sz (n + m) (orR a b) := makeR_sz (cat_sz h k)
theorem andR_sz {n m : Nat} {a b : Nm} (h : Sz n a) (k : Sz m b) : Sz (n + m + 3) (andR a b) := (notR_sz (orR_sz (notR_sz h) (notR_sz k))).mono (by omega)
theorem minusR_sz {n m : Nat} {a b : Nm} (h : Sz n a) (k : Sz m b) : Sz (n + m + 4) (minusR a b) := (andR_sz h (notR_sz k)).mono (by omega)

end Go.Proofs.Ytaianhhmmacblaa
