import Derived.Test.YtaianhhmmacblaaMath3
/-
  The program's algorithms as functions of lists.
-/
namespace Go.Proofs.Ytaianhhmmacblaa

def Bdd (l : List (Int × Int)) : Prop := ∀ s ∈ l, -2000000000000000 ≤ s.1 ∧ s.1 ≤ 2000000000000000 ∧ -2000000000000000 ≤ s.2 ∧ s.2 ≤ 2000000000000000
theorem Bdd.get {l : List (Int × Int)} (h : Bdd l) {k : Nat} (hk : k < l.length) : -2000000000000000 ≤ l[k].1 ∧ l[k].1 ≤ 2000000000000000 ∧ -2000000000000000 ≤ l[k].2 ∧ l[k].2 ≤ 2000000000000000 := h _ (List.getElem_mem hk)
theorem Bdd.append {a b : List (Int × Int)} (h : Bdd a) (h' : Bdd b) : Bdd (a ++ b) := fun s hs => by
  rcases List.mem_append.1 hs with h1 | h1
  · exact h s h1
  · exact h' s h1
theorem Bdd.one {a b : Int} (h : -2000000000000000 ≤ a ∧ a ≤ 2000000000000000 ∧ -2000000000000000 ≤ b ∧ b ≤ 2000000000000000) : Bdd [(a, b)] := fun s hs => by
  simp at hs
  subst hs
  exact h
def jstep (nx : Int → Int) (out : List (Int × Int)) (s : Int × Int) : List (Int × Int) :=
  match out.getLast? with
  | some t => if s.1 ≤ nx t.2 then out.dropLast ++ [(t.1, max t.2 s.2)] else out ++ [s]
  | none => [s]
def joinL (nx : Int → Int) (l : List (Int × Int)) : List (Int × Int) := l.foldl (jstep nx) []
theorem jstep_nil (nx : Int → Int) (s : Int × Int) : jstep nx [] s = [s] := rfl
theorem jstep_snoc (nx : Int → Int) (pre : List (Int × Int)) (t s : Int × Int) : jstep nx (pre ++ [t]) s = if s.1 ≤ nx t.2 then pre ++ [(t.1, max t.2 s.2)] else pre ++ [t] ++ [s] := by
  simp [jstep]
theorem joinL_take (nx : Int → Int) (l : List (Int × Int)) (k : Nat) (hk : k < l.length) : joinL nx (l.take (k + 1)) = jstep nx (joinL nx (l.take k)) l[k] := by
  unfold joinL
  rw [List.take_succ_eq_append_getElem hk, List.foldl_append]
  rfl
theorem jstep_len (nx : Int → Int) (out : List (Int × Int)) (s : Int × Int) : (jstep nx out s).length ≤ out.length + 1 := by
  unfold jstep
  split
  · split
    · simp
    · simp
  · simp
theorem joinL_len (nx : Int → Int) (l : List (Int × Int)) : (joinL nx l).length ≤ l.length := by
  have : ∀ (l out : List (Int × Int)), (l.foldl (jstep nx) out).length ≤ out.length + l.length := by
    intro l
    induction l with
    | nil => intro out; simp
    | cons s l ih => intro out; have := ih (jstep nx out s); have := jstep_len nx out s; simp; omega
  have h := this l []
  simp at h
  exact h
theorem bdd_jstep {nx : Int → Int} {out : List (Int × Int)} {s : Int × Int} (h : Bdd out) (hs : Bdd [s]) : Bdd (jstep nx out s) := by
  unfold jstep
  split
  · rename_i t ht
    have hm := h t (List.mem_of_getLast? ht)
    have hs' := hs s (by simp)
    split
    · refine Bdd.append (fun u hu => h u (List.dropLast_subset _ hu)) (Bdd.one ⟨hm.1, hm.2.1, by omega, by omega⟩)
    · exact Bdd.append h hs
  · exact hs
theorem bdd_joinL {nx : Int → Int} {l : List (Int × Int)} (h : Bdd l) : Bdd (joinL nx l) := by
  have : ∀ (l out : List (Int × Int)), Bdd out → Bdd l → Bdd (l.foldl (jstep nx) out) := by
    intro l
    induction l with
    | nil => intro out h _; exact h
    | cons s l ih => intro out h hl; exact ih _ (bdd_jstep h (fun u hu => hl u (by simp at hu; simp [hu]))) (fun u hu => hl u (by simp [hu]))
  exact this l [] (fun _ hs => by cases hs) h
theorem Bdd.take {l : List (Int × Int)} (h : Bdd l) (k : Nat) : Bdd (l.take k) := fun s hs => h s (List.mem_of_mem_take hs)
/-- the ends are int64s -/
def InR (l : List (Int × Int)) : Prop := ∀ s ∈ l, -9223372036854775808 ≤ s.1 ∧ s.1 ≤ 9223372036854775807 ∧ -9223372036854775808 ≤ s.2 ∧ s.2 ≤ 9223372036854775807
def istep (acc : List (Int × Int)) (s : Int × Int) : List (Int × Int) := if okS (clampI s) then acc ++ [clampI s] else acc
def pstep (acc : List (Int × Int)) (s : Int × Int) : List (Int × Int) := if okS (clampF s) then acc ++ [clampF s] else acc
theorem istep_take (l : List (Int × Int)) (k : Nat) (hk : k < l.length) : (l.take (k + 1)).foldl istep [] = istep ((l.take k).foldl istep []) l[k] := foldl_take istep _ l k hk
theorem pstep_take (l : List (Int × Int)) (k : Nat) (hk : k < l.length) : (l.take (k + 1)).foldl pstep [] = pstep ((l.take k).foldl pstep []) l[k] := foldl_take pstep _ l k hk
theorem istep_eq (l acc : List (Int × Int)) : l.foldl istep acc = acc ++ (l.map clampI).filter okS := by
  induction l generalizing acc with
  | nil => simp
  | cons s l ih => rw [List.foldl_cons, ih]; unfold istep; by_cases h : okS (clampI s) = true <;> simp [h]
theorem pstep_eq (l acc : List (Int × Int)) : l.foldl pstep acc = acc ++ (l.map clampF).filter okS := by
  induction l generalizing acc with
  | nil => simp
  | cons s l ih => rw [List.foldl_cons, ih]; unfold pstep; by_cases h : okS (clampF s) = true <;> simp [h]
theorem istep_len (l : List (Int × Int)) (k : Nat) : ((l.take k).foldl istep []).length ≤ k := by
  rw [istep_eq]
  have h1 := List.length_filter_le okS ((l.take k).map clampI)
  rw [List.length_map, List.length_take] at h1
  simp only [List.nil_append]
  omega
theorem pstep_len (l : List (Int × Int)) (k : Nat) : ((l.take k).foldl pstep []).length ≤ k := by
  rw [pstep_eq]
  have h1 := List.length_filter_le okS ((l.take k).map clampF)
  rw [List.length_map, List.length_take] at h1
  simp only [List.nil_append]
  omega
theorem istep_bdd (l : List (Int × Int)) : Bdd (l.foldl istep []) := by
  rw [istep_eq]
  intro s hs
  simp only [List.nil_append, List.mem_filter, List.mem_map] at hs
  obtain ⟨⟨x, _, rfl⟩, h⟩ := hs
  unfold okS clampI at h
  unfold clampI
  simp at h ⊢
  omega
theorem pstep_bdd (l : List (Int × Int)) : Bdd (l.foldl pstep []) := by
  rw [pstep_eq]
  intro s hs
  simp only [List.nil_append, List.mem_filter, List.mem_map] at hs
  obtain ⟨⟨x, _, rfl⟩, h⟩ := hs
  have := clampF_bd x h
  omega
theorem pstep_of (acc : List (Int × Int)) (lo hi u v : Int) (h1 : upF (max lo (-1000000000000000)) = u) (h2 : dnF (min hi 1000000000000000) = v) :
    (u ≤ v → pstep acc (lo, hi) = acc ++ [(u, v)]) ∧ (v < u → pstep acc (lo, hi) = acc) := by
  unfold pstep okS clampF
  simp only
  rw [h1, h2]
  constructor
  · intro h; simp [h]
  · intro h
    have : ¬ u ≤ v := by omega
    simp [this]
def meet (x y : Int × Int) : Int × Int := (max x.1 y.1, min x.2 y.2)
def cstep (x : Int × Int) (acc : List (Int × Int)) (y : Int × Int) : List (Int × Int) := if okS (meet x y) then acc ++ [meet x y] else acc
def ostep (b acc : List (Int × Int)) (x : Int × Int) : List (Int × Int) := b.foldl (cstep x) acc
def commonL (a b : List (Int × Int)) : List (Int × Int) := a.foldl (ostep b) []
theorem cstep_take (x : Int × Int) (acc l : List (Int × Int)) (k : Nat) (hk : k < l.length) : (l.take (k + 1)).foldl (cstep x) acc = cstep x ((l.take k).foldl (cstep x) acc) l[k] := foldl_take (cstep x) _ l k hk
theorem ostep_take (b l : List (Int × Int)) (k : Nat) (hk : k < l.length) : (l.take (k + 1)).foldl (ostep b) [] = ostep b ((l.take k).foldl (ostep b) []) l[k] := foldl_take (ostep b) _ l k hk
theorem cstep_len (x : Int × Int) (l acc : List (Int × Int)) : (l.foldl (cstep x) acc).length ≤ acc.length + l.length := by
  induction l generalizing acc with
  | nil => simp
  | cons s l ih =>
    have h1 := ih (cstep x acc s)
    have h2 : (cstep x acc s).length ≤ acc.length + 1 := by unfold cstep; split <;> simp
    simp
    omega
theorem ostep_len (b l acc : List (Int × Int)) : (l.foldl (ostep b) acc).length ≤ acc.length + l.length * b.length := by
  induction l generalizing acc with
  | nil => simp
  | cons s l ih =>
    have h1 := ih (ostep b acc s)
    have h2 : (ostep b acc s).length ≤ acc.length + b.length := cstep_len s b acc
    simp [Nat.add_mul]
    omega
def pstepG (nx pv : Int → Int) (st : List (Int × Int) × Int) (s : Int × Int) : List (Int × Int) × Int := (if st.2 ≤ pv s.1 then st.1 ++ [(st.2, pv s.1)] else st.1, nx s.2)
def pfoldG (nx pv : Int → Int) (l : List (Int × Int)) (lo : Int) : List (Int × Int) × Int := l.foldl (pstepG nx pv) ([], lo)
def pgaps (nx pv : Int → Int) (l : List (Int × Int)) (lo hi : Int) : List (Int × Int) := if (pfoldG nx pv l lo).2 ≤ hi then (pfoldG nx pv l lo).1 ++ [((pfoldG nx pv l lo).2, hi)] else (pfoldG nx pv l lo).1
theorem pfoldG_take (nx pv : Int → Int) (l : List (Int × Int)) (lo : Int) (k : Nat) (hk : k < l.length) : pfoldG nx pv (l.take (k + 1)) lo = pstepG nx pv (pfoldG nx pv (l.take k) lo) l[k] := foldl_take (pstepG nx pv) _ l k hk
theorem pfoldG_len (nx pv : Int → Int) (l : List (Int × Int)) (st : List (Int × Int) × Int) : (l.foldl (pstepG nx pv) st).1.length ≤ st.1.length + l.length := by
  induction l generalizing st with
  | nil => simp
  | cons s l ih =>
    have h1 := ih (pstepG nx pv st s)
    have h2 : (pstepG nx pv st s).1.length ≤ st.1.length + 1 := by unfold pstepG; simp only; split <;> simp
    simp
    omega
theorem InR.of_bdd {l : List (Int × Int)} (h : Bdd l) : InR l := fun s hs => by have := h s hs; omega
theorem commonL_bdd {a b : List (Int × Int)} (ha : Bdd a) (hb : Bdd b) : Bdd (commonL a b) := by
  have inner : ∀ (x : Int × Int) (l acc : List (Int × Int)), Bdd [x] → Bdd l → Bdd acc → Bdd (l.foldl (cstep x) acc) := by
    intro x l
    induction l with
    | nil => intro acc _ _ h; exact h
    | cons y l ih =>
      intro acc hx hl hacc
      refine ih _ hx (fun s hs => hl s (by simp [hs])) ?_
      unfold cstep
      split
      · refine hacc.append ?_
        have h1 := hx x (by simp)
        have h2 := hl y (by simp)
        exact Bdd.one ⟨by omega, by omega, by omega, by omega⟩
      · exact hacc
  have outer : ∀ (l acc : List (Int × Int)), Bdd l → Bdd acc → Bdd (l.foldl (ostep b) acc) := by
    intro l
    induction l with
    | nil => intro acc _ h; exact h
    | cons x l ih => intro acc hl hacc; exact ih _ (fun s hs => hl s (by simp [hs])) (inner x b acc (fun s hs => hl s (by simp at hs; simp [hs])) hb hacc)
  exact outer a [] ha (fun _ h => by cases h)
def andP (a b : Nm) : Nm := makeR ⟨commonL (makeR a).ints (makeR b).ints, commonL (makeR a).fracs (makeR b).fracs⟩
theorem commonL_len (a b : List (Int × Int)) : (commonL a b).length ≤ a.length * b.length := by
  have := ostep_len b a []
  rw [List.length_nil, Nat.zero_add] at this
  exact this
def notP (a : Nm) : Nm := makeR ⟨pgaps (fun u => u + 1) (fun u => u - 1) (makeR a).ints (-100000000000) 100000000000, pgaps afterI beforeI (makeR a).fracs (-999999999999999) 999999999999999⟩
theorem pgaps_len (nx pv : Int → Int) (l : List (Int × Int)) (lo hi : Int) : (pgaps nx pv l lo hi).length ≤ l.length + 1 := by
  have := pfoldG_len nx pv l ([], lo)
  rw [List.length_nil, Nat.zero_add] at this
  unfold pgaps
  unfold pfoldG
  split
  · simp; omega
  · omega
theorem InR.append {a b : List (Int × Int)} (h : InR a) (h' : InR b) : InR (a ++ b) := fun s hs => by
  rcases List.mem_append.1 hs with h1 | h1
  · exact h s h1
  · exact h' s h1
def inB (n : Int) (s : Int × Int) : Bool := decide (s.1 ≤ n) && decide (n ≤ s.2)
def insideB (l : List (Int × Int)) (n : Int) : Bool := l.any (inB n)
def hasL (d : Nm) (u : Int) : Bool := validB u && if u % 10000 = 0 then insideB d.ints (u / 10000) else insideB d.fracs u
def hasP (d : Nm) (u : Int) : Bool := hasL (makeR d) u
def minusP (a b : Nm) : Nm := andP a (notP b)
def cI (s : Int × Int) : Int := s.2 - s.1 + 1
def cF (s : Int × Int) : Int := s.2 - s.1 + 1 - floorI s.2 + floorI (s.1 - 1)
def csum (f : Int × Int → Int) (l : List (Int × Int)) (n : Int) : Int := l.foldl (fun n s => n + f s) n
theorem csum_take (f : Int × Int → Int) (l : List (Int × Int)) (n : Int) (k : Nat) (hk : k < l.length) : csum f (l.take (k + 1)) n = csum f (l.take k) n + f l[k] := foldl_take (fun n s => n + f s) _ l k hk
def countP (d : Nm) : Int := csum cF (makeR d).fracs (csum cI (makeR d).ints 0)
theorem csum_bd (f : Int × Int → Int) (l : List (Int × Int)) (hf : ∀ s ∈ l, -4001000000000000 ≤ f s ∧ f s ≤ 4001000000000000) : ∀ n, n - 4001000000000000 * l.length ≤ csum f l n ∧ csum f l n ≤ n + 4001000000000000 * l.length := by
  unfold csum
  induction l with
  | nil => intro n; simp
  | cons s l ih =>
    intro n
    have h1 := ih (fun t ht => hf t (by simp [ht])) (n + f s)
    have h2 := hf s (by simp)
    simp only [List.foldl_cons, List.length_cons]
    omega
theorem cI_bd {l : List (Int × Int)} (h : Bdd l) : ∀ s ∈ l, -4001000000000000 ≤ cI s ∧ cI s ≤ 4001000000000000 := fun s hs => by have := h s hs; unfold cI; omega
theorem cF_bd {l : List (Int × Int)} (h : Bdd l) : ∀ s ∈ l, -4001000000000000 ≤ cF s ∧ cF s ≤ 4001000000000000 := fun s hs => by have := h s hs; unfold cF floorI; omega
/-- the closure's state: the best so far, and whether there is one -/
def tk (st : Int × Bool) (u : Int) : Int × Bool := if !st.2 || nearerB u st.1 then (u, true) else st
def nearI (s : Int × Int) (mid : Int) : Int := if s.1 > 0 then s.1 else if s.2 < 0 then s.2 else mid
def leastP (d : Nm) : Int × Bool := (makeR d).fracs.foldl (fun st s => tk st (nearI s 1)) ((makeR d).ints.foldl (fun st s => tk st (nearI s 0 * 10000)) (0, false))

end Go.Proofs.Ytaianhhmmacblaa
