import Derived.Test.YtaianhhmmacblaaMath0
import Derived.Test.YtaianhhmmacblaaMath1
/-
  The reference's representations, as functions of lists.
-/
namespace Go.Proofs.Ytaianhhmmacblaa

def clampI (s : Int × Int) : Int × Int := (max s.1 (-100000000000), min s.2 100000000000)
def intsR (l : List (Int × Int)) : List (Int × Int) := normalL (l.map clampI)
/-- the ends of a span of numbers that are not whole: within the range, not whole -/
def upF (u : Int) : Int := if u % 10000 = 0 then u + 1 else u
def dnF (u : Int) : Int := if u % 10000 = 0 then u - 1 else u
def clampF (s : Int × Int) : Int × Int := (upF (max s.1 (-1000000000000000)), dnF (min s.2 1000000000000000))
def okS (s : Int × Int) : Bool := decide (s.1 ≤ s.2)
def rankS (s : Int × Int) : Int × Int := (rankI s.1, rankI s.2)
def unrankS (s : Int × Int) : Int × Int := (unrankI s.1, unrankI s.2)
def fstep (acc : List (Int × Int)) (s : Int × Int) : List (Int × Int) := if okS (clampF s) then acc ++ [rankS (clampF s)] else acc
def fracsR (l : List (Int × Int)) : List (Int × Int) := normalL (l.foldl fstep [])
def gstep (st : List (Int × Int) × Int) (s : Int × Int) : List (Int × Int) × Int := (if st.2 < s.1 then st.1 ++ [(st.2, s.1 - 1)] else st.1, s.2 + 1)
def gfold (l : List (Int × Int)) (lo : Int) : List (Int × Int) × Int := l.foldl gstep ([], lo)
def gapsR (l : List (Int × Int)) (lo hi : Int) : List (Int × Int) := if (gfold l lo).2 ≤ hi then (gfold l lo).1 ++ [((gfold l lo).2, hi)] else (gfold l lo).1

theorem gfold_take (l : List (Int × Int)) (lo : Int) (k : Nat) (hk : k < l.length) : gfold (l.take (k + 1)) lo = gstep (gfold (l.take k) lo) l[k] := foldl_take gstep _ l k hk
theorem fstep_take (l : List (Int × Int)) (k : Nat) (hk : k < l.length) : (l.take (k + 1)).foldl fstep [] = fstep ((l.take k).foldl fstep []) l[k] := foldl_take fstep _ l k hk
theorem map_take {β : Type} (f : Int × Int → β) (l : List (Int × Int)) (k : Nat) (hk : k < l.length) : (l.take (k + 1)).map f = (l.take k).map f ++ [f l[k]] := by
  rw [List.take_succ_eq_append_getElem hk, List.map_append]; rfl
theorem gfold_st (l : List (Int × Int)) (hl : Bd l) :
    ∀ (st : List (Int × Int) × Int), -4100000000000000000 ≤ st.2 → st.2 ≤ 4100000000000000000 →
    -4100000000000000000 ≤ (l.foldl gstep st).2 ∧ (l.foldl gstep st).2 ≤ 4100000000000000000 ∧ (l.foldl gstep st).1.length ≤ st.1.length + l.length := by
  induction l with
  | nil => intro st h3 h4; exact ⟨h3, h4, by simp⟩
  | cons s l ih =>
    intro st h3 h4
    have hs : Bd1 s := hl s (by simp)
    unfold Bd1 at hs
    have := ih (fun y hy => hl y (by simp [hy])) (gstep st s) (by unfold gstep; simp only; omega) (by unfold gstep; simp only; omega)
    refine ⟨this.1, this.2.1, ?_⟩
    have h5 := this.2.2
    have h6 : (gstep st s).1.length ≤ st.1.length + 1 := by
      unfold gstep; simp only; split <;> simp
    rw [List.foldl_cons, List.length_cons]
    omega
theorem gfold_bd (l : List (Int × Int)) (lo : Int) (hl : Bd l) (h1 : -4100000000000000000 ≤ lo) (h2 : lo ≤ 4100000000000000000) (k : Nat) {out : List (Int × Int)} {x : Int} (h : gfold (l.take k) lo = (out, x)) :
    -4100000000000000000 ≤ x ∧ x ≤ 4100000000000000000 ∧ out.length ≤ l.length := by
  have := gfold_st (l.take k) (hl.take k) ([], lo) h1 h2
  unfold gfold at h
  rw [h] at this
  have hk : (l.take k).length ≤ l.length := by rw [List.length_take]; omega
  simp at this
  exact ⟨this.1, this.2.1, by omega⟩
theorem clampI_bdr (l : List (Int × Int)) : Bdr (l.map clampI) := by
  intro s hs hle
  obtain ⟨x, _, rfl⟩ := List.mem_map.1 hs
  unfold clampI at hle ⊢
  unfold Bd1
  simp only at hle ⊢
  omega
theorem clampF_bd (s : Int × Int) (h : okS (clampF s) = true) : -1000000000000000 ≤ (clampF s).1 ∧ (clampF s).1 ≤ (clampF s).2 ∧ (clampF s).2 ≤ 1000000000000000 := by
  unfold okS clampF upF dnF at *
  simp only [decide_eq_true_eq] at h
  simp only
  refine ⟨?_, h, ?_⟩
  · split <;> omega
  · split <;> omega
theorem rankI_bd (u : Int) (h1 : -1000000000000001 ≤ u) (h2 : u ≤ 1000000000000001) : -1000000000000001 ≤ rankI u ∧ rankI u ≤ 1000000000000001 := by unfold rankI; omega
theorem fstep_of {lo hi x0 y0 x1 y1 : Int} (acc : List (Int × Int)) (hx0 : x0 = max lo (-1000000000000000)) (hy0 : y0 = min hi 1000000000000000) (hx1 : upF x0 = x1) (hy1 : dnF y0 = y1) :
    (x1 ≤ y1 → fstep acc (lo, hi) = acc ++ [(rankI x1, rankI y1)]) ∧ (y1 < x1 → fstep acc (lo, hi) = acc) := by
  have e : clampF (lo, hi) = (x1, y1) := by unfold clampF; simp only; rw [← hx0, ← hy0, hx1, hy1]
  unfold fstep okS
  rw [e]
  refine ⟨fun h => ?_, fun h => ?_⟩
  · rw [if_pos (by simpa using h)]; rfl
  · rw [if_neg (by simpa using h)]
theorem upF_true {u : Int} (h : u % 10000 = 0) : upF u = u + 1 := if_pos h
theorem upF_false {u : Int} (h : ¬ u % 10000 = 0) : upF u = u := if_neg h
theorem dnF_true {u : Int} (h : u % 10000 = 0) : dnF u = u - 1 := if_pos h
theorem dnF_false {u : Int} (h : ¬ u % 10000 = 0) : dnF u = u := if_neg h
theorem upF_le (u : Int) : u ≤ upF u := by unfold upF; split <;> omega
theorem dnF_le (u : Int) : dnF u ≤ u := by unfold dnF; split <;> omega
theorem fstep_bd (l : List (Int × Int)) : Bd (l.foldl fstep []) ∧ (l.foldl fstep []).length ≤ l.length := by
  have key : ∀ (l acc : List (Int × Int)), Bd acc → Bd (l.foldl fstep acc) ∧ (l.foldl fstep acc).length ≤ acc.length + l.length := by
    intro l
    induction l with
    | nil => intro acc h; exact ⟨h, by simp⟩
    | cons s l ih =>
      intro acc h
      have h1 : Bd (fstep acc s) ∧ (fstep acc s).length ≤ acc.length + 1 := by
        unfold fstep
        split
        · rename_i hok
          have hb := clampF_bd s hok
          have r1 := rankI_bd (clampF s).1 (by omega) (by omega)
          have r2 := rankI_bd (clampF s).2 (by omega) (by omega)
          exact ⟨h.append (Bd.one (by unfold Bd1 rankS; simp only; omega)), by simp⟩
        · exact ⟨h, by omega⟩
      have := ih _ h1.1
      exact ⟨this.1, by rw [List.foldl_cons, List.length_cons]; omega⟩
  have := key l [] Bd.nil
  simpa using this

end Go.Proofs.Ytaianhhmmacblaa
