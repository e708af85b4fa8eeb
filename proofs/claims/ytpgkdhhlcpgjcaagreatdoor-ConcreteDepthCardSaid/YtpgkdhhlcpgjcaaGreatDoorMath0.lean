/-
  Plain arithmetic for the sets of numbers: quotients and remainders as Go takes them, against Lean's own.
-/
namespace Go.Proofs.YtpgkdhhlcpgjcaaGreatDoor

def floorI (u : Int) : Int := u / 10000
def afterI (u : Int) : Int := if (u + 1) % 10000 = 0 then u + 2 else u + 1
def beforeI (u : Int) : Int := if (u - 1) % 10000 = 0 then u - 2 else u - 1
def absI (u : Int) : Int := if 0 ≤ u then u else -u
def nearerB (u v : Int) : Bool := decide (absI u < absI v) || (decide (absI u = absI v) && decide (v < u))
def validB (u : Int) : Bool := decide (-1000000000000000 ≤ u) && decide (u ≤ 1000000000000000)
def rankI (u : Int) : Int := (u / 10000) * 9999 + (u - (u / 10000) * 10000) - 1
def unrankI (k : Int) : Int := (k / 9999) * 10000 + (k - (k / 9999) * 9999) + 1

theorem tdiv_floor (u d : Int) (hd : 0 < d) : (u.tmod d < 0 → u.tdiv d - 1 = u / d) ∧ (0 ≤ u.tmod d → u.tdiv d = u / d) := by
  have h1 := Int.mul_tdiv_add_tmod u d
  have h2 := Int.emod_add_mul_ediv u d
  have h3 := Int.emod_nonneg u (by omega : d ≠ 0)
  have h4 := Int.emod_lt_of_pos u hd
  have h5 : u.tmod d < d := Int.tmod_lt_of_pos u hd
  have h6 : -d < u.tmod d := by
    have := Int.tmod_lt_of_pos (-u) hd
    rw [Int.neg_tmod] at this
    omega
  refine ⟨fun h => ?_, fun h => ?_⟩
  · have : d * (u.tdiv d - 1) + (u.tmod d + d) = u := by rw [Int.mul_sub, Int.mul_one]; omega
    have := (Int.ediv_emod_unique hd (a := u) (r := u.tmod d + d) (q := u.tdiv d - 1)).2 ⟨by omega, by omega, by omega⟩
    exact this.1.symm
  · have := (Int.ediv_emod_unique hd (a := u) (r := u.tmod d) (q := u.tdiv d)).2 ⟨by omega, by omega, by omega⟩
    exact this.1.symm

theorem tmod_zero (u d : Int) : u.tmod d = 0 ↔ u % d = 0 := by
  rw [← Int.dvd_iff_tmod_eq_zero, ← Int.dvd_iff_emod_eq_zero]

theorem tdiv_whole (u d : Int) (h : u % d = 0) : u.tdiv d = u / d := Int.tdiv_eq_ediv_of_dvd (Int.dvd_of_emod_eq_zero h)
theorem tdiv_bound (u d : Int) (hd : 1 < d) (lo hi : Int) (hlo : lo ≤ 0) (hhi : 0 ≤ hi) (h1 : lo ≤ u) (h2 : u ≤ hi) : lo ≤ u.tdiv d ∧ u.tdiv d ≤ hi := by
  have h := tdiv_floor u d (by omega)
  have h3 := Int.mul_tdiv_add_tmod u d
  rcases Int.lt_or_le u 0 with hu | hu
  · have e : u.tdiv d = -((-u).tdiv d) := by rw [Int.neg_tdiv]; omega
    have h4 : (-u).tdiv d ≤ -u := Int.tdiv_le_self d (by omega)
    have h5 : 0 ≤ (-u).tdiv d := Int.tdiv_nonneg (by omega) (by omega)
    omega
  · have h4 : u.tdiv d ≤ u := Int.tdiv_le_self d hu
    have h5 : 0 ≤ u.tdiv d := Int.tdiv_nonneg hu (by omega)
    omega

theorem absI_cases (u : Int) : (0 ≤ u ∧ absI u = u) ∨ (u < 0 ∧ absI u = -u) := by
  unfold absI
  by_cases h : 0 ≤ u
  · exact .inl ⟨h, if_pos h⟩
  · exact .inr ⟨by omega, if_neg h⟩
theorem nearer_iff (u v : Int) : nearerB u v = true ↔ absI u < absI v ∨ (absI u = absI v ∧ v < u) := by
  unfold nearerB; simp
theorem valid_iff (u : Int) : validB u = true ↔ -1000000000000000 ≤ u ∧ u ≤ 1000000000000000 := by
  unfold validB; simp

theorem ite_max (x y : Int) : (if x < y then y else x) = max x y := by split <;> omega
theorem ite_min (x y : Int) : (if y < x then y else x) = min x y := by split <;> omega

end Go.Proofs.YtpgkdhhlcpgjcaaGreatDoor
/-
  Spans on the line of integers: the algorithms of the reference and of the program, as functions of lists.
-/
namespace Go.Proofs.YtpgkdhhlcpgjcaaGreatDoor

def Bd1 (s : Int × Int) : Prop := -4000000000000000000 ≤ s.1 ∧ s.1 ≤ 4000000000000000000 ∧ -4000000000000000000 ≤ s.2 ∧ s.2 ≤ 4000000000000000000
/-- all ends within bounds -/
def Bd (l : List (Int × Int)) : Prop := ∀ s ∈ l, Bd1 s
theorem Bd.nil : Bd [] := fun _ h => by simp at h
theorem Bd.append {a b : List (Int × Int)} (h : Bd a) (k : Bd b) : Bd (a ++ b) := fun s hs => by
  rcases List.mem_append.1 hs with h1 | h1
  · exact h s h1
  · exact k s h1
theorem Bd.one {s : Int × Int} (h : Bd1 s) : Bd [s] := fun x hx => by simp at hx; subst hx; exact h
theorem Bd.get {l : List (Int × Int)} (h : Bd l) {k : Nat} (hk : k < l.length) : Bd1 l[k] := h _ (List.getElem_mem hk)

/-- all ends of spans that are not empty within bounds -/
def Bdr (l : List (Int × Int)) : Prop := ∀ s ∈ l, s.1 ≤ s.2 → Bd1 s
theorem Bdr.take {l : List (Int × Int)} (h : Bdr l) (k : Nat) : Bdr (l.take k) := fun s hs => h s (List.mem_of_mem_take hs)
theorem Bdr.get {l : List (Int × Int)} (h : Bdr l) {k : Nat} (hk : k < l.length) : l[k].1 ≤ l[k].2 → Bd1 l[k] := h _ (List.getElem_mem hk)
theorem Bd.bdr {l : List (Int × Int)} (h : Bd l) : Bdr l := fun s hs _ => h s hs

abbrev NSt := List (Int × Int) × Bool × (Int × Int)
/-- one round of the inner loop of the reference's normal -/
def nstep (st : NSt) (x : Int × Int) : NSt :=
  if x.2 + 1 < st.2.2.1 then (st.1 ++ [x], st.2.1, st.2.2)
  else if st.2.2.2 + 1 < x.1 then (if st.2.1 then (st.1 ++ [x], true, st.2.2) else (st.1 ++ [st.2.2] ++ [x], true, st.2.2))
  else (st.1, st.2.1, (min st.2.2.1 x.1, max st.2.2.2 x.2))
def nfold (out : List (Int × Int)) (s : Int × Int) : NSt := out.foldl nstep ([], false, s)
/-- one round of the outer loop -/
def nins (out : List (Int × Int)) (s : Int × Int) : List (Int × Int) :=
  if s.2 < s.1 then out else
    let r := nfold out s
    if r.2.1 then r.1 else r.1 ++ [r.2.2]
def normalL (l : List (Int × Int)) : List (Int × Int) := l.foldl nins []

theorem foldl_take {α β : Type} (f : β → α → β) (b : β) (l : List α) (k : Nat) (hk : k < l.length) : (l.take (k + 1)).foldl f b = f ((l.take k).foldl f b) l[k] := by
  rw [List.take_succ_eq_append_getElem hk, List.foldl_append]; rfl

/-- one span is still to be laid, or none -/
def pend (b : Bool) : Nat := cond b 0 1
theorem nfold_facts : ∀ (out : List (Int × Int)) (st : NSt), Bd out → Bd st.1 → Bd1 st.2.2 →
    Bd (out.foldl nstep st).1 ∧ Bd1 (out.foldl nstep st).2.2 ∧ (out.foldl nstep st).1.length + pend (out.foldl nstep st).2.1 ≤ st.1.length + pend st.2.1 + out.length := by
  intro out
  induction out with
  | nil => intro st _ h1 h2; exact ⟨h1, h2, Nat.le_refl _⟩
  | cons x out ih =>
    intro st ho h1 h2
    have hx : Bd1 x := ho x (by simp)
    have ho' : Bd out := fun y hy => ho y (by simp [hy])
    have step : Bd (nstep st x).1 ∧ Bd1 (nstep st x).2.2 ∧ (nstep st x).1.length + pend (nstep st x).2.1 ≤ st.1.length + pend st.2.1 + 1 := by
      unfold nstep
      split
      · exact ⟨h1.append (Bd.one hx), h2, by simp; omega⟩
      · split
        · split
          · rename_i hd
            exact ⟨h1.append (Bd.one hx), h2, by simp [pend]⟩
          · rename_i hd
            have : st.2.1 = false := by simpa using hd
            exact ⟨(h1.append (Bd.one h2)).append (Bd.one hx), h2, by simp [this, pend]⟩
        · refine ⟨h1, ?_, by simp⟩
          unfold Bd1 at *
          simp only
          omega
    have := ih (nstep st x) ho' step.1 step.2.1
    refine ⟨this.1, this.2.1, ?_⟩
    have h3 := this.2.2
    have h4 := step.2.2
    rw [List.foldl_cons, List.length_cons]
    omega

theorem nins_facts (out : List (Int × Int)) (s : Int × Int) (ho : Bd out) (hs : s.1 ≤ s.2 → Bd1 s) : Bd (nins out s) ∧ (nins out s).length ≤ out.length + 1 := by
  unfold nins
  split
  · exact ⟨ho, by omega⟩
  · have hs := hs (by omega)
    have := nfold_facts out ([], false, s) ho Bd.nil hs
    unfold nfold
    simp only [List.length_nil, Nat.zero_add] at this
    by_cases hd : (out.foldl nstep ([], false, s)).2.1 = true
    · rw [hd] at this
      simp only [hd, if_true]
      simp only [pend, cond] at this
      exact ⟨this.1, by omega⟩
    · simp only [Bool.not_eq_true] at hd
      rw [hd] at this
      simp only [hd, Bool.false_eq_true, if_false]
      simp only [pend, cond] at this
      exact ⟨this.1.append (Bd.one this.2.1), by simp; omega⟩
theorem normalL_facts (l : List (Int × Int)) (hl : Bdr l) : Bd (normalL l) ∧ (normalL l).length ≤ l.length := by
  unfold normalL
  have key : ∀ (l out : List (Int × Int)), Bdr l → Bd out → Bd (l.foldl nins out) ∧ (l.foldl nins out).length ≤ out.length + l.length := by
    intro l
    induction l with
    | nil => intro out _ h; exact ⟨h, by simp⟩
    | cons s l ih =>
      intro out hl ho
      have h1 := nins_facts out s ho (hl s (by simp))
      have := ih (nins out s) (fun y hy => hl y (by simp [hy])) h1.1
      exact ⟨this.1, by simp only [List.foldl_cons, List.length_cons]; omega⟩
  have := key l [] hl Bd.nil
  simpa using this
theorem Bd.take {l : List (Int × Int)} (h : Bd l) (k : Nat) : Bd (l.take k) := fun s hs => h s (List.mem_of_mem_take hs)

theorem nfold_take (out : List (Int × Int)) (s : Int × Int) (j : Nat) (hj : j < out.length) : nfold (out.take (j + 1)) s = nstep (nfold (out.take j) s) out[j] := foldl_take nstep _ out j hj
theorem normalL_take (l : List (Int × Int)) (k : Nat) (hk : k < l.length) : normalL (l.take (k + 1)) = nins (normalL (l.take k)) l[k] := foldl_take nins _ l k hk
/-- what the inner loop's state obeys -/
theorem nfold_st (out : List (Int × Int)) (s : Int × Int) (ho : Bd out) (hs : Bd1 s) (j : Nat) {nx : List (Int × Int)} {d : Bool} {slo shi : Int} (h : nfold (out.take j) s = (nx, d, (slo, shi))) :
    Bd nx ∧ Bd1 (slo, shi) ∧ nx.length ≤ out.length + 1 := by
  have := nfold_facts (out.take j) ([], false, s) (ho.take j) Bd.nil hs
  unfold nfold at h
  rw [h] at this
  have hl : (out.take j).length ≤ out.length := by rw [List.length_take]; omega
  simp [pend] at this
  exact ⟨this.1, this.2.1, by omega⟩

end Go.Proofs.YtpgkdhhlcpgjcaaGreatDoor
/-
  The reference's representations, as functions of lists.
-/
namespace Go.Proofs.YtpgkdhhlcpgjcaaGreatDoor

def clampI (s : Int × Int) : Int × Int := (max s.1 (-100000000000), min s.2 100000000000)
def intsR (l : List (Int × Int)) : List (Int × Int) := normalL (l.map clampI)
/-- the ends of a span of numbers that are not whole: within the range, not whole -/
def upF (u : Int) : Int := if u % 10000 = 0 then u + 1 else u
def dnF (u : Int) : Int := if u % 10000 = 0 then u - 1 else u
def clampF (s : Int × Int) : Int × Int := (upF (max s.1 (-1000000000000000)), dnF (min s.2 1000000000000000))
def okS (s : Int × Int) : Bool := decide (s.1 ≤ s.2)
def rankS (s : Int × Int) : Int × Int := (rankI s.1, rankI s.2)
def unrankS (s : Int × Int) : Int × Int := (unrankI s.1, unrankI s.2)
def fstep (acc : List (Int × Int)) (s : Int × Int) : List (Int × Int) := if okS (clampF s) then acc ++ [rankS (clampF s)] else acc
def fracsR (l : List (Int × Int)) : List (Int × Int) := normalL (l.foldl fstep [])
def gstep (st : List (Int × Int) × Int) (s : Int × Int) : List (Int × Int) × Int := (if st.2 < s.1 then st.1 ++ [(st.2, s.1 - 1)] else st.1, s.2 + 1)
def gfold (l : List (Int × Int)) (lo : Int) : List (Int × Int) × Int := l.foldl gstep ([], lo)
def gapsR (l : List (Int × Int)) (lo hi : Int) : List (Int × Int) := if (gfold l lo).2 ≤ hi then (gfold l lo).1 ++ [((gfold l lo).2, hi)] else (gfold l lo).1

theorem gfold_take (l : List (Int × Int)) (lo : Int) (k : Nat) (hk : k < l.length) : gfold (l.take (k + 1)) lo = gstep (gfold (l.take k) lo) l[k] := foldl_take gstep _ l k hk
theorem fstep_take (l : List (Int × Int)) (k : Nat) (hk : k < l.length) : (l.take (k + 1)).foldl fstep [] = fstep ((l.take k).foldl fstep []) l[k] := foldl_take fstep _ l k hk
theorem map_take {β : Type} (f : Int × Int → β) (l : List (Int × Int)) (k : Nat) (hk : k < l.length) : (l.take (k + 1)).map f = (l.take k).map f ++ [f l[k]] := by
  rw [List.take_succ_eq_append_getElem hk, List.map_append]; rfl
theorem gfold_st (l : List (Int × Int)) (hl : Bd l) :
    ∀ (st : List (Int × Int) × Int), -4100000000000000000 ≤ st.2 → st.2 ≤ 4100000000000000000 →
    -4100000000000000000 ≤ (l.foldl gstep st).2 ∧ (l.foldl gstep st).2 ≤ 4100000000000000000 ∧ (l.foldl gstep st).1.length ≤ st.1.length + l.length := by
  induction l with
  | nil => intro st h3 h4; exact ⟨h3, h4, by simp⟩
  | cons s l ih =>
    intro st h3 h4
    have hs : Bd1 s := hl s (by simp)
    unfold Bd1 at hs
    have := ih (fun y hy => hl y (by simp [hy])) (gstep st s) (by unfold gstep; simp only; omega) (by unfold gstep; simp only; omega)
    refine ⟨this.1, this.2.1, ?_⟩
    have h5 := this.2.2
    have h6 : (gstep st s).1.length ≤ st.1.length + 1 := by
      unfold gstep; simp only; split <;> simp
    rw [List.foldl_cons, List.length_cons]
    omega
theorem gfold_bd (l : List (Int × Int)) (lo : Int) (hl : Bd l) (h1 : -4100000000000000000 ≤ lo) (h2 : lo ≤ 4100000000000000000) (k : Nat) {out : List (Int × Int)} {x : Int} (h : gfold (l.take k) lo = (out, x)) :
    -4100000000000000000 ≤ x ∧ x ≤ 4100000000000000000 ∧ out.length ≤ l.length := by
  have := gfold_st (l.take k) (hl.take k) ([], lo) h1 h2
  unfold gfold at h
  rw [h] at this
  have hk : (l.take k).length ≤ l.length := by rw [List.length_take]; omega
  simp at this
  exact ⟨this.1, this.2.1, by omega⟩
theorem clampI_bdr (l : List (Int × Int)) : Bdr (l.map clampI) := by
  intro s hs hle
  obtain ⟨x, _, rfl⟩ := List.mem_map.1 hs
  unfold clampI at hle ⊢
  unfold Bd1
  simp only at hle ⊢
  omega
theorem clampF_bd (s : Int × Int) (h : okS (clampF s) = true) : -1000000000000000 ≤ (clampF s).1 ∧ (clampF s).1 ≤ (clampF s).2 ∧ (clampF s).2 ≤ 1000000000000000 := by
  unfold okS clampF upF dnF at *
  simp only [decide_eq_true_eq] at h
  simp only
  refine ⟨?_, h, ?_⟩
  · split <;> omega
  · split <;> omega
theorem rankI_bd (u : Int) (h1 : -1000000000000001 ≤ u) (h2 : u ≤ 1000000000000001) : -1000000000000001 ≤ rankI u ∧ rankI u ≤ 1000000000000001 := by unfold rankI; omega
theorem fstep_of {lo hi x0 y0 x1 y1 : Int} (acc : List (Int × Int)) (hx0 : x0 = max lo (-1000000000000000)) (hy0 : y0 = min hi 1000000000000000) (hx1 : upF x0 = x1) (hy1 : dnF y0 = y1) :
    (x1 ≤ y1 → fstep acc (lo, hi) = acc ++ [(rankI x1, rankI y1)]) ∧ (y1 < x1 → fstep acc (lo, hi) = acc) := by
  have e : clampF (lo, hi) = (x1, y1) := by unfold clampF; simp only; rw [← hx0, ← hy0, hx1, hy1]
  unfold fstep okS
  rw [e]
  refine ⟨fun h => ?_, fun h => ?_⟩
  · rw [if_pos (by simpa using h)]; rfl
  · rw [if_neg (by simpa using h)]
theorem upF_true {u : Int} (h : u % 10000 = 0) : upF u = u + 1 := if_pos h
theorem upF_false {u : Int} (h : ¬ u % 10000 = 0) : upF u = u := if_neg h
theorem dnF_true {u : Int} (h : u % 10000 = 0) : dnF u = u - 1 := if_pos h
theorem dnF_false {u : Int} (h : ¬ u % 10000 = 0) : dnF u = u := if_neg h
theorem upF_le (u : Int) : u ≤ upF u := by unfold upF; split <;> omega
theorem dnF_le (u : Int) : dnF u ≤ u := by unfold dnF; split <;> omega
theorem fstep_bd (l : List (Int × Int)) : Bd (l.foldl fstep []) ∧ (l.foldl fstep []).length ≤ l.length := by
  have key : ∀ (l acc : List (Int × Int)), Bd acc → Bd (l.foldl fstep acc) ∧ (l.foldl fstep acc).length ≤ acc.length + l.length := by
    intro l
    induction l with
    | nil => intro acc h; exact ⟨h, by simp⟩
    | cons s l ih =>
      intro acc h
      have h1 : Bd (fstep acc s) ∧ (fstep acc s).length ≤ acc.length + 1 := by
        unfold fstep
        split
        · rename_i hok
          have hb := clampF_bd s hok
          have r1 := rankI_bd (clampF s).1 (by omega) (by omega)
          have r2 := rankI_bd (clampF s).2 (by omega) (by omega)
          exact ⟨h.append (Bd.one (by unfold Bd1 rankS; simp only; omega)), by simp⟩
        · exact ⟨h, by omega⟩
      have := ih _ h1.1
      exact ⟨this.1, by rw [List.foldl_cons, List.length_cons]; omega⟩
  have := key l [] Bd.nil
  simpa using this

end Go.Proofs.YtpgkdhhlcpgjcaaGreatDoor
/-
  The reference's sets, as functions of sets of spans; their sizes and their ranges.
-/
namespace Go.Proofs.YtpgkdhhlcpgjcaaGreatDoor

/-- a set of numbers: its spans of integers and of other numbers -/
structure Nm where
  ints : List (Int × Int)
  fracs : List (Int × Int)
  deriving DecidableEq
/-- at most n spans of each kind -/
def Sz (n : Nat) (d : Nm) : Prop := d.ints.length ≤ n ∧ d.fracs.length ≤ n
theorem Sz.mono {n m : Nat} {d : Nm} (h : Sz n d) (k : n ≤ m) : Sz m d := ⟨Nat.le_trans h.1 k, Nat.le_trans h.2 k⟩

def makeR (d : Nm) : Nm := ⟨intsR d.ints, (fracsR d.fracs).map unrankS⟩
def notR (d : Nm) : Nm := ⟨gapsR (intsR d.ints) (-100000000000) 100000000000, (gapsR (fracsR d.fracs) (-999900000000000) 999899999999999).map unrankS⟩
def orR (a b : Nm) : Nm := makeR ⟨a.ints ++ b.ints, a.fracs ++ b.fracs⟩
def andR (a b : Nm) : Nm := notR (orR (notR a) (notR b))
def minusR (a b : Nm) : Nm := andR a (notR b)
def emptyR (a : Nm) : Bool := decide (makeR a = ⟨[], []⟩)
def subsetR (a b : Nm) : Bool := emptyR (minusR a b)
def sameN (a b : Nm) : Bool := decide (a = b)
def validNR (a : Nm) : Bool := sameN a (makeR a)
def allN : Nm := ⟨[(-100000000000, 100000000000)], [(-999999999999999, 999999999999999)]⟩
def intsN : Nm := ⟨[(-100000000000, 100000000000)], []⟩

/-- the ends of the result are ends of the arguments -/
theorem nfold_ends (p : Int → Prop) : ∀ (out : List (Int × Int)) (st : NSt), (∀ s ∈ out, p s.1 ∧ p s.2) → (∀ s ∈ st.1, p s.1 ∧ p s.2) → (p st.2.2.1 ∧ p st.2.2.2) →
    (∀ s ∈ (out.foldl nstep st).1, p s.1 ∧ p s.2) ∧ (p (out.foldl nstep st).2.2.1 ∧ p (out.foldl nstep st).2.2.2)
  | [], st, _, h1, h2 => ⟨h1, h2⟩
  | x :: out, st, ho, h1, h2 => by
    have hx := ho x (by simp)
    refine nfold_ends p out (nstep st x) (fun y hy => ho y (by simp [hy])) ?_ ?_
    · unfold nstep
      split
      · intro s hs; simp at hs; rcases hs with hs | rfl
        · exact h1 s hs
        · exact hx
      · split
        · split
          · intro s hs; simp at hs; rcases hs with hs | rfl
            · exact h1 s hs
            · exact hx
          · intro s hs; simp at hs; rcases hs with hs | rfl | rfl
            · exact h1 s hs
            · exact h2
            · exact hx
        · exact h1
    · unfold nstep
      split
      · exact h2
      · split
        · split
          · exact h2
          · exact h2
        · simp only
          refine ⟨?_, ?_⟩
          · by_cases h : st.2.2.1 ≤ x.1
            · rw [Int.min_eq_left h]; exact h2.1
            · rw [Int.min_eq_right (by omega)]; exact hx.1
          · by_cases h : st.2.2.2 ≤ x.2
            · rw [Int.max_eq_right h]; exact hx.2
            · rw [Int.max_eq_left (by omega)]; exact h2.2
theorem nins_ends (p : Int → Prop) (out : List (Int × Int)) (s : Int × Int) (ho : ∀ s ∈ out, p s.1 ∧ p s.2) (hs : s.1 ≤ s.2 → p s.1 ∧ p s.2) : ∀ x ∈ nins out s, p x.1 ∧ p x.2 := by
  unfold nins
  split
  · exact ho
  · have hs := hs (by omega)
    have := nfold_ends p out ([], false, s) ho (by simp) hs
    unfold nfold
    simp only
    split
    · exact this.1
    · intro x hx; simp at hx; rcases hx with hx | rfl
      · exact this.1 x hx
      · exact this.2
theorem normalL_ends (p : Int → Prop) (l : List (Int × Int)) (hl : ∀ s ∈ l, s.1 ≤ s.2 → p s.1 ∧ p s.2) : ∀ x ∈ normalL l, p x.1 ∧ p x.2 := by
  have key : ∀ (l out : List (Int × Int)), (∀ s ∈ l, s.1 ≤ s.2 → p s.1 ∧ p s.2) → (∀ s ∈ out, p s.1 ∧ p s.2) → ∀ x ∈ l.foldl nins out, p x.1 ∧ p x.2 := by
    intro l
    induction l with
    | nil => intro out _ h; exact h
    | cons s l ih => intro out hl ho; exact ih _ (fun y hy => hl y (by simp [hy])) (nins_ends p out s ho (hl s (by simp)))
  exact key l [] hl (by simp)

theorem intsR_len (l : List (Int × Int)) : (intsR l).length ≤ l.length := by
  have := (normalL_facts _ (clampI_bdr l)).2
  rw [List.length_map] at this
  exact this
theorem intsR_bd (l : List (Int × Int)) : Bd (intsR l) := (normalL_facts _ (clampI_bdr l)).1
theorem fracsR_len (l : List (Int × Int)) : (fracsR l).length ≤ l.length := Nat.le_trans (normalL_facts _ (fstep_bd l).1.bdr).2 (fstep_bd l).2
theorem fracsR_bd (l : List (Int × Int)) : Bd (fracsR l) := (normalL_facts _ (fstep_bd l).1.bdr).1
theorem fstep_rng (l : List (Int × Int)) : ∀ s ∈ l.foldl fstep [], (-1000000000000001 ≤ s.1 ∧ s.1 ≤ 1000000000000001) ∧ (-1000000000000001 ≤ s.2 ∧ s.2 ≤ 1000000000000001) := by
  have key : ∀ (l acc : List (Int × Int)), (∀ s ∈ acc, (-1000000000000001 ≤ s.1 ∧ s.1 ≤ 1000000000000001) ∧ (-1000000000000001 ≤ s.2 ∧ s.2 ≤ 1000000000000001)) →
      ∀ s ∈ l.foldl fstep acc, (-1000000000000001 ≤ s.1 ∧ s.1 ≤ 1000000000000001) ∧ (-1000000000000001 ≤ s.2 ∧ s.2 ≤ 1000000000000001) := by
    intro l
    induction l with
    | nil => intro acc h; exact h
    | cons s l ih =>
      intro acc h
      refine ih _ ?_
      unfold fstep
      split
      · rename_i hok
        have hb := clampF_bd s hok
        intro x hx
        simp at hx
        rcases hx with hx | rfl
        · exact h x hx
        · exact ⟨rankI_bd _ (by omega) (by omega), rankI_bd _ (by omega) (by omega)⟩
      · exact h
  exact key l [] (by simp)
theorem fracsR_rng (l : List (Int × Int)) : ∀ s ∈ fracsR l, (-1000000000000001 ≤ s.1 ∧ s.1 ≤ 1000000000000001) ∧ (-1000000000000001 ≤ s.2 ∧ s.2 ≤ 1000000000000001) :=
  normalL_ends (fun x => -1000000000000001 ≤ x ∧ x ≤ 1000000000000001) _ fun s hs _ => fstep_rng l s hs
theorem gfold_rng (B : Int) : ∀ (l : List (Int × Int)) (st : List (Int × Int) × Int), (∀ s ∈ l, (-B ≤ s.1 ∧ s.1 ≤ B) ∧ (-B ≤ s.2 ∧ s.2 ≤ B)) →
    (∀ s ∈ st.1, (-B - 1 ≤ s.1 ∧ s.1 ≤ B + 1) ∧ (-B - 1 ≤ s.2 ∧ s.2 ≤ B + 1)) → (-B - 1 ≤ st.2 ∧ st.2 ≤ B + 1) →
    (∀ s ∈ (l.foldl gstep st).1, (-B - 1 ≤ s.1 ∧ s.1 ≤ B + 1) ∧ (-B - 1 ≤ s.2 ∧ s.2 ≤ B + 1)) ∧ (-B - 1 ≤ (l.foldl gstep st).2 ∧ (l.foldl gstep st).2 ≤ B + 1)
  | [], st, _, h1, h2 => ⟨h1, h2⟩
  | x :: l, st, hl, h1, h2 => by
    have hx := hl x (by simp)
    refine gfold_rng B l (gstep st x) (fun y hy => hl y (by simp [hy])) ?_ (by unfold gstep; simp only; omega)
    unfold gstep
    simp only
    split
    · intro s hs; simp at hs; rcases hs with hs | rfl
      · exact h1 s hs
      · simp only; omega
    · exact h1
theorem gapsR_rng (B : Int) (l : List (Int × Int)) (lo hi : Int) (hl : ∀ s ∈ l, (-B ≤ s.1 ∧ s.1 ≤ B) ∧ (-B ≤ s.2 ∧ s.2 ≤ B)) (h1 : -B ≤ lo) (h2 : lo ≤ B) (h3 : -B ≤ hi) (h4 : hi ≤ B) :
    ∀ s ∈ gapsR l lo hi, (-B - 1 ≤ s.1 ∧ s.1 ≤ B + 1) ∧ (-B - 1 ≤ s.2 ∧ s.2 ≤ B + 1) := by
  have := gfold_rng B l ([], lo) hl (by simp) (by simp only; omega)
  unfold gapsR gfold
  split
  · intro s hs; simp at hs; rcases hs with hs | rfl
    · exact this.1 s hs
    · simp only; omega
  · exact this.1
theorem gapsR_len (l : List (Int × Int)) (lo hi : Int) : (gapsR l lo hi).length ≤ l.length + 1 := by
  have key : ∀ (l : List (Int × Int)) (st : List (Int × Int) × Int), (l.foldl gstep st).1.length ≤ st.1.length + l.length := by
    intro l
    induction l with
    | nil => intro st; simp
    | cons x l ih =>
      intro st
      have h1 := ih (gstep st x)
      have h2 : (gstep st x).1.length ≤ st.1.length + 1 := by unfold gstep; simp only; split <;> simp
      rw [List.foldl_cons, List.length_cons]
      omega
  have := key l ([], lo)
  simp at this
  unfold gapsR gfold
  split
  · simp; omega
  · omega
theorem makeR_sz {n : Nat} {d : Nm} (h : Sz n d) : Sz n (makeR d) := ⟨Nat.le_trans (intsR_len _) h.1, by unfold makeR; simp only [List.length_map]; exact Nat.le_trans (fracsR_len _) h.2⟩
theorem notR_sz {n : Nat} {d : Nm} (h : Sz n d) : Sz (n + 1) (notR d) :=
  ⟨Nat.le_trans (gapsR_len _ _ _) (Nat.succ_le_succ (Nat.le_trans (intsR_len _) h.1)), by unfold notR; simp only [List.length_map]; exact Nat.le_trans (gapsR_len _ _ _) (Nat.succ_le_succ (Nat.le_trans (fracsR_len _) h.2))⟩
theorem cat_sz {n m : Nat} {a b : Nm} (h : Sz n a) (k : Sz m b) : Sz (n + m) ⟨a.ints ++ b.ints, a.fracs ++ b.fracs⟩ :=
  ⟨by simp only [List.length_append]; exact Nat.add_le_add h.1 k.1, by simp only [List.length_append]; exact Nat.add_le_add h.2 k.2⟩
theorem orR_sz {n m : Nat} {a b : Nm} (h : Sz n a) (k : Sz m b) : Sz (n + m) (orR a b) := makeR_sz (cat_sz h k)
theorem andR_sz {n m : Nat} {a b : Nm} (h : Sz n a) (k : Sz m b) : Sz (n + m + 3) (andR a b) := (notR_sz (orR_sz (notR_sz h) (notR_sz k))).mono (by omega)
theorem minusR_sz {n m : Nat} {a b : Nm} (h : Sz n a) (k : Sz m b) : Sz (n + m + 4) (minusR a b) := (andR_sz h (notR_sz k)).mono (by omega)

end Go.Proofs.YtpgkdhhlcpgjcaaGreatDoor
/-
  The program's algorithms as functions of lists.
-/
namespace Go.Proofs.YtpgkdhhlcpgjcaaGreatDoor

def Bdd (l : List (Int × Int)) : Prop := ∀ s ∈ l, -2000000000000000 ≤ s.1 ∧ s.1 ≤ 2000000000000000 ∧ -2000000000000000 ≤ s.2 ∧ s.2 ≤ 2000000000000000
theorem Bdd.get {l : List (Int × Int)} (h : Bdd l) {k : Nat} (hk : k < l.length) : -2000000000000000 ≤ l[k].1 ∧ l[k].1 ≤ 2000000000000000 ∧ -2000000000000000 ≤ l[k].2 ∧ l[k].2 ≤ 2000000000000000 := h _ (List.getElem_mem hk)
theorem Bdd.append {a b : List (Int × Int)} (h : Bdd a) (h' : Bdd b) : Bdd (a ++ b) := fun s hs => by
  rcases List.mem_append.1 hs with h1 | h1
  · exact h s h1
  · exact h' s h1
theorem Bdd.one {a b : Int} (h : -2000000000000000 ≤ a ∧ a ≤ 2000000000000000 ∧ -2000000000000000 ≤ b ∧ b ≤ 2000000000000000) : Bdd [(a, b)] := fun s hs => by
  simp at hs
  subst hs
  exact h
def jstep (nx : Int → Int) (out : List (Int × Int)) (s : Int × Int) : List (Int × Int) :=
  match out.getLast? with
  | some t => if s.1 ≤ nx t.2 then out.dropLast ++ [(t.1, max t.2 s.2)] else out ++ [s]
  | none => [s]
def joinL (nx : Int → Int) (l : List (Int × Int)) : List (Int × Int) := l.foldl (jstep nx) []
theorem jstep_nil (nx : Int → Int) (s : Int × Int) : jstep nx [] s = [s] := rfl
theorem jstep_snoc (nx : Int → Int) (pre : List (Int × Int)) (t s : Int × Int) : jstep nx (pre ++ [t]) s = if s.1 ≤ nx t.2 then pre ++ [(t.1, max t.2 s.2)] else pre ++ [t] ++ [s] := by
  simp [jstep]
theorem joinL_take (nx : Int → Int) (l : List (Int × Int)) (k : Nat) (hk : k < l.length) : joinL nx (l.take (k + 1)) = jstep nx (joinL nx (l.take k)) l[k] := by
  unfold joinL
  rw [List.take_succ_eq_append_getElem hk, List.foldl_append]
  rfl
theorem jstep_len (nx : Int → Int) (out : List (Int × Int)) (s : Int × Int) : (jstep nx out s).length ≤ out.length + 1 := by
  unfold jstep
  split
  · split
    · simp
    · simp
  · simp
theorem joinL_len (nx : Int → Int) (l : List (Int × Int)) : (joinL nx l).length ≤ l.length := by
  have : ∀ (l out : List (Int × Int)), (l.foldl (jstep nx) out).length ≤ out.length + l.length := by
    intro l
    induction l with
    | nil => intro out; simp
    | cons s l ih => intro out; have := ih (jstep nx out s); have := jstep_len nx out s; simp; omega
  have h := this l []
  simp at h
  exact h
theorem bdd_jstep {nx : Int → Int} {out : List (Int × Int)} {s : Int × Int} (h : Bdd out) (hs : Bdd [s]) : Bdd (jstep nx out s) := by
  unfold jstep
  split
  · rename_i t ht
    have hm := h t (List.mem_of_getLast? ht)
    have hs' := hs s (by simp)
    split
    · refine Bdd.append (fun u hu => h u (List.dropLast_subset _ hu)) (Bdd.one ⟨hm.1, hm.2.1, by omega, by omega⟩)
    · exact Bdd.append h hs
  · exact hs
theorem bdd_joinL {nx : Int → Int} {l : List (Int × Int)} (h : Bdd l) : Bdd (joinL nx l) := by
  have : ∀ (l out : List (Int × Int)), Bdd out → Bdd l → Bdd (l.foldl (jstep nx) out) := by
    intro l
    induction l with
    | nil => intro out h _; exact h
    | cons s l ih => intro out h hl; exact ih _ (bdd_jstep h (fun u hu => hl u (by simp at hu; simp [hu]))) (fun u hu => hl u (by simp [hu]))
  exact this l [] (fun _ hs => by cases hs) h
theorem Bdd.take {l : List (Int × Int)} (h : Bdd l) (k : Nat) : Bdd (l.take k) := fun s hs => h s (List.mem_of_mem_take hs)
/-- the ends are int64s -/
def InR (l : List (Int × Int)) : Prop := ∀ s ∈ l, -9223372036854775808 ≤ s.1 ∧ s.1 ≤ 9223372036854775807 ∧ -9223372036854775808 ≤ s.2 ∧ s.2 ≤ 9223372036854775807
def istep (acc : List (Int × Int)) (s : Int × Int) : List (Int × Int) := if okS (clampI s) then acc ++ [clampI s] else acc
def pstep (acc : List (Int × Int)) (s : Int × Int) : List (Int × Int) := if okS (clampF s) then acc ++ [clampF s] else acc
theorem istep_take (l : List (Int × Int)) (k : Nat) (hk : k < l.length) : (l.take (k + 1)).foldl istep [] = istep ((l.take k).foldl istep []) l[k] := foldl_take istep _ l k hk
theorem pstep_take (l : List (Int × Int)) (k : Nat) (hk : k < l.length) : (l.take (k + 1)).foldl pstep [] = pstep ((l.take k).foldl pstep []) l[k] := foldl_take pstep _ l k hk
theorem istep_eq (l acc : List (Int × Int)) : l.foldl istep acc = acc ++ (l.map clampI).filter okS := by
  induction l generalizing acc with
  | nil => simp
  | cons s l ih => rw [List.foldl_cons, ih]; unfold istep; by_cases h : okS (clampI s) = true <;> simp [h]
theorem pstep_eq (l acc : List (Int × Int)) : l.foldl pstep acc = acc ++ (l.map clampF).filter okS := by
  induction l generalizing acc with
  | nil => simp
  | cons s l ih => rw [List.foldl_cons, ih]; unfold pstep; by_cases h : okS (clampF s) = true <;> simp [h]
theorem istep_len (l : List (Int × Int)) (k : Nat) : ((l.take k).foldl istep []).length ≤ k := by
  rw [istep_eq]
  have h1 := List.length_filter_le okS ((l.take k).map clampI)
  rw [List.length_map, List.length_take] at h1
  simp only [List.nil_append]
  omega
theorem pstep_len (l : List (Int × Int)) (k : Nat) : ((l.take k).foldl pstep []).length ≤ k := by
  rw [pstep_eq]
  have h1 := List.length_filter_le okS ((l.take k).map clampF)
  rw [List.length_map, List.length_take] at h1
  simp only [List.nil_append]
  omega
theorem istep_bdd (l : List (Int × Int)) : Bdd (l.foldl istep []) := by
  rw [istep_eq]
  intro s hs
  simp only [List.nil_append, List.mem_filter, List.mem_map] at hs
  obtain ⟨⟨x, _, rfl⟩, h⟩ := hs
  unfold okS clampI at h
  unfold clampI
  simp at h ⊢
  omega
theorem pstep_bdd (l : List (Int × Int)) : Bdd (l.foldl pstep []) := by
  rw [pstep_eq]
  intro s hs
  simp only [List.nil_append, List.mem_filter, List.mem_map] at hs
  obtain ⟨⟨x, _, rfl⟩, h⟩ := hs
  have := clampF_bd x h
  omega
theorem pstep_of (acc : List (Int × Int)) (lo hi u v : Int) (h1 : upF (max lo (-1000000000000000)) = u) (h2 : dnF (min hi 1000000000000000) = v) :
    (u ≤ v → pstep acc (lo, hi) = acc ++ [(u, v)]) ∧ (v < u → pstep acc (lo, hi) = acc) := by
  unfold pstep okS clampF
  simp only
  rw [h1, h2]
  constructor
  · intro h; simp [h]
  · intro h
    have : ¬ u ≤ v := by omega
    simp [this]
def meet (x y : Int × Int) : Int × Int := (max x.1 y.1, min x.2 y.2)
def cstep (x : Int × Int) (acc : List (Int × Int)) (y : Int × Int) : List (Int × Int) := if okS (meet x y) then acc ++ [meet x y] else acc
def ostep (b acc : List (Int × Int)) (x : Int × Int) : List (Int × Int) := b.foldl (cstep x) acc
def commonL (a b : List (Int × Int)) : List (Int × Int) := a.foldl (ostep b) []
theorem cstep_take (x : Int × Int) (acc l : List (Int × Int)) (k : Nat) (hk : k < l.length) : (l.take (k + 1)).foldl (cstep x) acc = cstep x ((l.take k).foldl (cstep x) acc) l[k] := foldl_take (cstep x) _ l k hk
theorem ostep_take (b l : List (Int × Int)) (k : Nat) (hk : k < l.length) : (l.take (k + 1)).foldl (ostep b) [] = ostep b ((l.take k).foldl (ostep b) []) l[k] := foldl_take (ostep b) _ l k hk
theorem cstep_len (x : Int × Int) (l acc : List (Int × Int)) : (l.foldl (cstep x) acc).length ≤ acc.length + l.length := by
  induction l generalizing acc with
  | nil => simp
  | cons s l ih =>
    have h1 := ih (cstep x acc s)
    have h2 : (cstep x acc s).length ≤ acc.length + 1 := by unfold cstep; split <;> simp
    simp
    omega
theorem ostep_len (b l acc : List (Int × Int)) : (l.foldl (ostep b) acc).length ≤ acc.length + l.length * b.length := by
  induction l generalizing acc with
  | nil => simp
  | cons s l ih =>
    have h1 := ih (ostep b acc s)
    have h2 : (ostep b acc s).length ≤ acc.length + b.length := cstep_len s b acc
    simp [Nat.add_mul]
    omega
def pstepG (nx pv : Int → Int) (st : List (Int × Int) × Int) (s : Int × Int) : List (Int × Int) × Int := (if st.2 ≤ pv s.1 then st.1 ++ [(st.2, pv s.1)] else st.1, nx s.2)
def pfoldG (nx pv : Int → Int) (l : List (Int × Int)) (lo : Int) : List (Int × Int) × Int := l.foldl (pstepG nx pv) ([], lo)
def pgaps (nx pv : Int → Int) (l : List (Int × Int)) (lo hi : Int) : List (Int × Int) := if (pfoldG nx pv l lo).2 ≤ hi then (pfoldG nx pv l lo).1 ++ [((pfoldG nx pv l lo).2, hi)] else (pfoldG nx pv l lo).1
theorem pfoldG_take (nx pv : Int → Int) (l : List (Int × Int)) (lo : Int) (k : Nat) (hk : k < l.length) : pfoldG nx pv (l.take (k + 1)) lo = pstepG nx pv (pfoldG nx pv (l.take k) lo) l[k] := foldl_take (pstepG nx pv) _ l k hk
theorem pfoldG_len (nx pv : Int → Int) (l : List (Int × Int)) (st : List (Int × Int) × Int) : (l.foldl (pstepG nx pv) st).1.length ≤ st.1.length + l.length := by
  induction l generalizing st with
  | nil => simp
  | cons s l ih =>
    have h1 := ih (pstepG nx pv st s)
    have h2 : (pstepG nx pv st s).1.length ≤ st.1.length + 1 := by unfold pstepG; simp only; split <;> simp
    simp
    omega
theorem InR.of_bdd {l : List (Int × Int)} (h : Bdd l) : InR l := fun s hs => by have := h s hs; omega
theorem commonL_bdd {a b : List (Int × Int)} (ha : Bdd a) (hb : Bdd b) : Bdd (commonL a b) := by
  have inner : ∀ (x : Int × Int) (l acc : List (Int × Int)), Bdd [x] → Bdd l → Bdd acc → Bdd (l.foldl (cstep x) acc) := by
    intro x l
    induction l with
    | nil => intro acc _ _ h; exact h
    | cons y l ih =>
      intro acc hx hl hacc
      refine ih _ hx (fun s hs => hl s (by simp [hs])) ?_
      unfold cstep
      split
      · refine hacc.append ?_
        have h1 := hx x (by simp)
        have h2 := hl y (by simp)
        exact Bdd.one ⟨by omega, by omega, by omega, by omega⟩
      · exact hacc
  have outer : ∀ (l acc : List (Int × Int)), Bdd l → Bdd acc → Bdd (l.foldl (ostep b) acc) := by
    intro l
    induction l with
    | nil => intro acc _ h; exact h
    | cons x l ih => intro acc hl hacc; exact ih _ (fun s hs => hl s (by simp [hs])) (inner x b acc (fun s hs => hl s (by simp at hs; simp [hs])) hb hacc)
  exact outer a [] ha (fun _ h => by cases h)
def andP (a b : Nm) : Nm := makeR ⟨commonL (makeR a).ints (makeR b).ints, commonL (makeR a).fracs (makeR b).fracs⟩
theorem commonL_len (a b : List (Int × Int)) : (commonL a b).length ≤ a.length * b.length := by
  have := ostep_len b a []
  rw [List.length_nil, Nat.zero_add] at this
  exact this
def notP (a : Nm) : Nm := makeR ⟨pgaps (fun u => u + 1) (fun u => u - 1) (makeR a).ints (-100000000000) 100000000000, pgaps afterI beforeI (makeR a).fracs (-999999999999999) 999999999999999⟩
theorem pgaps_len (nx pv : Int → Int) (l : List (Int × Int)) (lo hi : Int) : (pgaps nx pv l lo hi).length ≤ l.length + 1 := by
  have := pfoldG_len nx pv l ([], lo)
  rw [List.length_nil, Nat.zero_add] at this
  unfold pgaps
  unfold pfoldG
  split
  · simp; omega
  · omega
theorem InR.append {a b : List (Int × Int)} (h : InR a) (h' : InR b) : InR (a ++ b) := fun s hs => by
  rcases List.mem_append.1 hs with h1 | h1
  · exact h s h1
  · exact h' s h1
def inB (n : Int) (s : Int × Int) : Bool := decide (s.1 ≤ n) && decide (n ≤ s.2)
def insideB (l : List (Int × Int)) (n : Int) : Bool := l.any (inB n)
def hasL (d : Nm) (u : Int) : Bool := validB u && if u % 10000 = 0 then insideB d.ints (u / 10000) else insideB d.fracs u
def hasP (d : Nm) (u : Int) : Bool := hasL (makeR d) u
def minusP (a b : Nm) : Nm := andP a (notP b)
def cI (s : Int × Int) : Int := s.2 - s.1 + 1
def cF (s : Int × Int) : Int := s.2 - s.1 + 1 - floorI s.2 + floorI (s.1 - 1)
def csum (f : Int × Int → Int) (l : List (Int × Int)) (n : Int) : Int := l.foldl (fun n s => n + f s) n
theorem csum_take (f : Int × Int → Int) (l : List (Int × Int)) (n : Int) (k : Nat) (hk : k < l.length) : csum f (l.take (k + 1)) n = csum f (l.take k) n + f l[k] := foldl_take (fun n s => n + f s) _ l k hk
def countP (d : Nm) : Int := csum cF (makeR d).fracs (csum cI (makeR d).ints 0)
theorem csum_bd (f : Int × Int → Int) (l : List (Int × Int)) (hf : ∀ s ∈ l, -4001000000000000 ≤ f s ∧ f s ≤ 4001000000000000) : ∀ n, n - 4001000000000000 * l.length ≤ csum f l n ∧ csum f l n ≤ n + 4001000000000000 * l.length := by
  unfold csum
  induction l with
  | nil => intro n; simp
  | cons s l ih =>
    intro n
    have h1 := ih (fun t ht => hf t (by simp [ht])) (n + f s)
    have h2 := hf s (by simp)
    simp only [List.foldl_cons, List.length_cons]
    omega
theorem cI_bd {l : List (Int × Int)} (h : Bdd l) : ∀ s ∈ l, -4001000000000000 ≤ cI s ∧ cI s ≤ 4001000000000000 := fun s hs => by have := h s hs; unfold cI; omega
theorem cF_bd {l : List (Int × Int)} (h : Bdd l) : ∀ s ∈ l, -4001000000000000 ≤ cF s ∧ cF s ≤ 4001000000000000 := fun s hs => by have := h s hs; unfold cF floorI; omega
/-- the closure's state: the best so far, and whether there is one -/
def tk (st : Int × Bool) (u : Int) : Int × Bool := if !st.2 || nearerB u st.1 then (u, true) else st
def nearI (s : Int × Int) (mid : Int) : Int := if s.1 > 0 then s.1 else if s.2 < 0 then s.2 else mid
def leastP (d : Nm) : Int × Bool := (makeR d).fracs.foldl (fun st s => tk st (nearI s 1)) ((makeR d).ints.foldl (fun st s => tk st (nearI s 0 * 10000)) (0, false))

end Go.Proofs.YtpgkdhhlcpgjcaaGreatDoor
