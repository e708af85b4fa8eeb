/-
  Spans on the line of integers: the algorithms of the reference and of the program, as functions of lists.
-/
namespace Go.Proofs.Ytaianhhmmacblaa

def Bd1 (s : Int × Int) : Prop := -4000000000000000000 ≤ s.1 ∧ s.1 ≤ 4000000000000000000 ∧ -4000000000000000000 ≤ s.2 ∧ s.2 ≤ 4000000000000000000
/-- all ends within bounds -/
def Bd (l : List (Int × Int)) : Prop := ∀ s ∈ l, Bd1 s
theorem Bd.nil : Bd [] := fun _ h => by simp at h
theorem Bd.append {a b : List (Int × Int)} (h : Bd a) (k : Bd b) : Bd (a ++ b) := fun s hs => by
  rcases List.mem_append.1 hs with h1 | h1
  · exact h s h1
  · exact k s h1
theorem Bd.one {s : Int × Int} (h : Bd1 s) : Bd [s] := fun x hx => by simp at hx; subst hx; exact h
theorem Bd.get {l : List (Int × Int)} (h : Bd l) {k : Nat} (hk : k < l.length) : Bd1 l[k] := h _ (List.getElem_mem hk)

/-- all ends of spans that are not empty within bounds -/
def Bdr (l : List (Int × Int)) : Prop := ∀ s ∈ l, s.1 ≤ s.2 → Bd1 s
theorem Bdr.take {l : List (Int × Int)} (h : Bdr l) (k : Nat) : Bdr (l.take k) := fun s hs => h s (List.mem_of_mem_take hs)
theorem Bdr.get {l : List (Int × Int)} (h : Bdr l) {k : Nat} (hk : k < l.length) : l[k].1 ≤ l[k].2 → Bd1 l[k] := h _ (List.getElem_mem hk)
theorem Bd.bdr {l : List (Int × Int)} (h : Bd l) : Bdr l := fun s hs _ => h s hs

abbrev NSt := List (Int × Int) × Bool × (Int × Int)
/-- one round of the inner loop of the reference's normal -/
def nstep (st : NSt) (x : Int × Int) : NSt :=
  if x.2 + 1 < st.2.2.1 then (st.1 ++ [x], st.2.1, st.2.2)
  else if st.2.2.2 + 1 < x.1 then (if st.2.1 then (st.1 ++ [x], true, st.2.2) else (st.1 ++ [st.2.2] ++ [x], true, st.2.2))
  else (st.1, st.2.1, (min st.2.2.1 x.1, max st.2.2.2 x.2))
def nfold (out : List (Int × Int)) (s : Int × Int) : NSt := out.foldl nstep ([], false, s)
/-- one round of the outer loop -/
def nins (out : List (Int × Int)) (s : Int × Int) : List (Int × Int) :=
  if s.2 < s.1 then out else
    let r := nfold out s
    if r.2.1 then r.1 else r.1 ++ [r.2.2]
def normalL (l : List (Int × Int)) : List (Int × Int) := l.foldl nins []

theorem foldl_take {α β : Type} (f : β → α → β) (b : β) (l : List α) (k : Nat) (hk : k < l.length) : (l.take (k + 1)).foldl f b = f ((l.take k).foldl f b) l[k] := by
  rw [List.take_succ_eq_append_getElem hk, List.foldl_append]; rfl

/-- one span is still to be laid, or none -/
def pend (b : Bool) : Nat := cond b 0 1
theorem nfold_facts : ∀ (out : List (Int × Int)) (st : NSt), Bd out → Bd st.1 → Bd1 st.2.2 →
    Bd (out.foldl nstep st).1 ∧ Bd1 (out.foldl nstep st).2.2 ∧ (out.foldl nstep st).1.length + pend (out.foldl nstep st).2.1 ≤ st.1.length + pend st.2.1 + out.length := by
  intro out
  induction out with
  | nil => intro st _ h1 h2; exact ⟨h1, h2, Nat.le_refl _⟩
  | cons x out ih =>
    intro st ho h1 h2
    have hx : Bd1 x := ho x (by simp)
    have ho' : Bd out := fun y hy => ho y (by simp [hy])
    have step : Bd (nstep st x).1 ∧ Bd1 (nstep st x).2.2 ∧ (nstep st x).1.length + pend (nstep st x).2.1 ≤ st.1.length + pend st.2.1 + 1 := by
      unfold nstep
      split
      · exact ⟨h1.append (Bd.one hx), h2, by simp; omega⟩
      · split
        · split
          · rename_i hd
            exact ⟨h1.append (Bd.one hx), h2, by simp [pend]⟩
          · rename_i hd
            have : st.2.1 = false := by simpa using hd
            exact ⟨(h1.append (Bd.one h2)).append (Bd.one hx), h2, by simp [this, pend]⟩
        · refine ⟨h1, ?_, by simp⟩
          unfold Bd1 at *
          simp only
          omega
    have := ih (nstep st x) ho' step.1 step.2.1
    refine ⟨this.1, this.2.1, ?_⟩
    have h3 := this.2.2
    have h4 := step.2.2
    rw [List.foldl_cons, List.length_cons]
    omega

theorem nins_facts (out : List (Int × Int)) (s : Int × Int) (ho : Bd out) (hs : s.1 ≤ s.2 → Bd1 s) : Bd (nins out s) ∧ (nins out s).length ≤ out.length + 1 := by
  unfold nins
  split
  · exact ⟨ho, by omega⟩
  · have hs := hs (by omega)
    have := nfold_facts out ([], false, s) ho Bd.nil hs
    unfold nfold
    simp only [List.length_nil, Nat.zero_add] at this
    by_cases hd : (out.foldl nstep ([], false, s)).2.1 = true
    · rw [hd] at this
      simp only [hd, if_true]
      simp only [pend, cond] at this
      exact ⟨this.1, by omega⟩
    · simp only [Bool.not_eq_true] at hd
      rw [hd] at this
      simp only [hd, Bool.false_eq_true, if_false]
      simp only [pend, cond] at this
      exact ⟨this.1.append (Bd.one this.2.1), by simp; omega⟩
theorem normalL_facts (l : List (Int × Int)) (hl : Bdr l) : Bd (normalL l) ∧ (normalL l).length ≤ l.length := by
  unfold normalL
  have key : ∀ (l out : List (Int × Int)), Bdr l → Bd out → Bd (l.foldl nins out) ∧ (l.foldl nins out).length ≤ out.length + l.length := by
    intro l
    induction l with
    | nil => intro out _ h; exact ⟨h, by simp⟩
    | cons s l ih =>
      intro out hl ho
      have h1 := nins_facts out s ho (hl s (by simp))
      have := ih (nins out s) (fun y hy => hl y (by simp [hy])) h1.1
      exact ⟨this.1, by simp only [List.foldl_cons, List.length_cons]; omega⟩
  have := key l [] hl Bd.nil
  simpa using this
theorem Bd.take {l : List (Int × Int)} (h : Bd l) (k : Nat) : Bd (l.take k) := fun s hs => h s (List.mem_of_mem_take hs)

theorem nfold_take (out : List (Int × Int)) (s : Int × Int) (j : Nat) (hj : j < out.length) : nfold (out.take (j + 1)) s = nstep (nfold (out.take j) s) out[j] := foldl_take nstep _ out j hj
theorem normalL_take (l : List (Int × Int)) (k : Nat) (hk : k < l.length) : normalL (l.take (k + 1)) = nins (normalL (l.take k)) l[k] := foldl_take nins _ l k hk
/-- what the inner loop's state obeys -/
theorem nfold_st (out : List (Int × Int)) (s : Int × Int) (ho : Bd out) (hs : Bd1 s) (j : Nat) {nx : List (Int × Int)} {d : Bool} {slo shi : Int} (h : nfold (out.take j) s = (nx, d, (slo, shi))) :
    Bd nx ∧ Bd1 (slo, shi) ∧ nx.length ≤ out.length + 1 := by
  have := nfold_facts (out.take j) ([], false, s) (ho.take j) Bd.nil hs
  unfold nfold at h
  rw [h] at this
  have hl : (out.take j).length ≤ out.length := by rw [List.length_take]; omega
  simp [pend] at this
  exact ⟨this.1, this.2.1, by omega⟩

end Go.Proofs.Ytaianhhmmacblaa
