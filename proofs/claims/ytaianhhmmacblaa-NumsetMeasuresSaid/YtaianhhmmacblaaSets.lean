import Derived.Test.YtaianhhmmacblaaMath0
/-
  Spans as sets of integers: representations in a normal form are equal exactly if they have the same members.
-/
namespace Go.Proofs.Ytaianhhmmacblaa

def mem (l : List (Int × Int)) (n : Int) : Prop := ∃ s ∈ l, s.1 ≤ n ∧ n ≤ s.2
theorem mem_nil (n : Int) : mem [] n ↔ False := by simp [mem]
theorem mem_cons (s : Int × Int) (l : List (Int × Int)) (n : Int) : mem (s :: l) n ↔ (s.1 ≤ n ∧ n ≤ s.2) ∨ mem l n := by simp [mem]
theorem mem_append (a b : List (Int × Int)) (n : Int) : mem (a ++ b) n ↔ mem a n ∨ mem b n := by
  induction a with
  | nil => simp [mem_nil]
  | cons s a ih => rw [List.cons_append, mem_cons, mem_cons, ih, or_assoc]
theorem mem_perm {a b : List (Int × Int)} (h : a.Perm b) (n : Int) : mem a n ↔ mem b n := by
  constructor
  · rintro ⟨s, hs, h1⟩; exact ⟨s, h.mem_iff.1 hs, h1⟩
  · rintro ⟨s, hs, h1⟩; exact ⟨s, h.mem_iff.2 hs, h1⟩

def sepS (s t : Int × Int) : Prop := s.2 + 1 < t.1
/-- the normal form: no span is empty, and between each two something is missing -/
def Can (l : List (Int × Int)) : Prop := (∀ s ∈ l, s.1 ≤ s.2) ∧ l.Pairwise sepS
theorem Can.nil : Can [] := ⟨fun _ h => (by cases h), List.Pairwise.nil⟩
theorem Can.tail {s : Int × Int} {l : List (Int × Int)} (h : Can (s :: l)) : Can l := ⟨fun x hx => h.1 x (List.mem_cons_of_mem _ hx), (List.pairwise_cons.1 h.2).2⟩
theorem Can.head {s : Int × Int} {l : List (Int × Int)} (h : Can (s :: l)) : s.1 ≤ s.2 := h.1 s (by simp)
theorem Can.sep {s : Int × Int} {l : List (Int × Int)} (h : Can (s :: l)) : ∀ x ∈ l, s.2 + 1 < x.1 := (List.pairwise_cons.1 h.2).1
theorem Can.cons {s : Int × Int} {l : List (Int × Int)} (h : Can l) (h1 : s.1 ≤ s.2) (h2 : ∀ x ∈ l, s.2 + 1 < x.1) : Can (s :: l) :=
  ⟨fun x hx => by
    rcases List.mem_cons.1 hx with rfl | hx
    · exact h1
    · exact h.1 x hx, List.pairwise_cons.2 ⟨h2, h.2⟩⟩
theorem Can.least {s : Int × Int} {l : List (Int × Int)} (h : Can (s :: l)) {n : Int} (hn : mem (s :: l) n) : s.1 ≤ n := by
  rcases (mem_cons s l n).1 hn with h1 | ⟨x, hx, h1⟩
  · exact h1.1
  · have := h.sep x hx; have := h.head; omega
theorem Can.mem_tail {s : Int × Int} {l : List (Int × Int)} (h : Can (s :: l)) (n : Int) : mem l n ↔ mem (s :: l) n ∧ s.2 < n := by
  rw [mem_cons]
  constructor
  · rintro ⟨x, hx, h1⟩
    have := h.sep x hx
    exact ⟨.inr ⟨x, hx, h1⟩, by omega⟩
  · rintro ⟨h1 | h1, h2⟩
    · omega
    · exact h1
theorem Can.unique : ∀ {a b : List (Int × Int)}, Can a → Can b → (∀ n, mem a n ↔ mem b n) → a = b
  | [], [], _, _, _ => rfl
  | [], t :: b, _, hb, h => by
    have := (h t.1).2 ((mem_cons _ _ _).2 (.inl ⟨Int.le_refl _, hb.head⟩))
    exact absurd this (by simp [mem_nil])
  | s :: a, [], ha, _, h => by
    have := (h s.1).1 ((mem_cons _ _ _).2 (.inl ⟨Int.le_refl _, ha.head⟩))
    exact absurd this (by simp [mem_nil])
  | s :: a, t :: b, ha, hb, h => by
    have h1 : s.1 = t.1 := by
      have h1 := hb.least ((h s.1).1 ((mem_cons _ _ _).2 (.inl ⟨Int.le_refl _, ha.head⟩)))
      have h2 := ha.least ((h t.1).2 ((mem_cons _ _ _).2 (.inl ⟨Int.le_refl _, hb.head⟩)))
      omega
    have hsa := ha.head
    have htb := hb.head
    have h2 : s.2 = t.2 := by
      rcases Int.lt_trichotomy s.2 t.2 with hl | he | hl
      · have := (h (s.2 + 1)).2 ((mem_cons _ _ _).2 (.inl ⟨by omega, by omega⟩))
        obtain ⟨x, hx, h3⟩ := (ha.mem_tail _).2 ⟨this, by omega⟩
        have := ha.sep x hx
        omega
      · exact he
      · have := (h (t.2 + 1)).1 ((mem_cons _ _ _).2 (.inl ⟨by omega, by omega⟩))
        obtain ⟨x, hx, h3⟩ := (hb.mem_tail _).2 ⟨this, by omega⟩
        have := hb.sep x hx
        omega
    have e : s = t := Prod.ext h1 h2
    subst e
    have := Can.unique ha.tail hb.tail fun n => by rw [ha.mem_tail, hb.mem_tail, h n]
    rw [this]

/-- the insertion of the reference's normal, without accumulator -/
def insL (s : Int × Int) : List (Int × Int) → List (Int × Int)
  | [] => [s]
  | x :: r => if x.2 + 1 < s.1 then x :: insL s r else if s.2 + 1 < x.1 then s :: x :: r else insL (min s.1 x.1, max s.2 x.2) r
theorem nfold_done : ∀ (r nx : List (Int × Int)) (s : Int × Int), s.1 ≤ s.2 → Can r → (∀ x ∈ r, s.2 + 1 < x.1) → r.foldl nstep (nx, true, s) = (nx ++ r, true, s)
  | [], nx, s, _, _, _ => by simp
  | x :: r, nx, s, h1, h2, h3 => by
    have hx := h3 x (by simp)
    have hx2 := h2.head
    have e : nstep (nx, true, s) x = (nx ++ [x], true, s) := by
      unfold nstep
      simp only
      rw [if_neg (by omega), if_pos hx]
      simp
    rw [List.foldl_cons, e, nfold_done r _ s h1 h2.tail (fun y hy => h3 y (by simp [hy]))]
    simp
def nend (st : NSt) : List (Int × Int) := if st.2.1 then st.1 else st.1 ++ [st.2.2]
theorem nfold_ins : ∀ (r nx : List (Int × Int)) (s : Int × Int), s.1 ≤ s.2 → Can r → nend (r.foldl nstep (nx, false, s)) = nx ++ insL s r
  | [], nx, s, _, _ => by simp [nend, insL]
  | x :: r, nx, s, h1, h2 => by
    have hx2 := h2.head
    rw [List.foldl_cons]
    by_cases c1 : x.2 + 1 < s.1
    · have e : nstep (nx, false, s) x = (nx ++ [x], false, s) := by unfold nstep; simp only; rw [if_pos c1]
      rw [e, nfold_ins r _ s h1 h2.tail]
      simp [insL, c1]
    · by_cases c2 : s.2 + 1 < x.1
      · have e : nstep (nx, false, s) x = (nx ++ [s] ++ [x], true, s) := by unfold nstep; simp only; rw [if_neg c1, if_pos c2]; simp
        rw [e, nfold_done r _ s h1 h2.tail (fun y hy => by have := h2.sep y hy; omega)]
        simp [nend, insL, c1, c2]
      · have e : nstep (nx, false, s) x = (nx, false, (min s.1 x.1, max s.2 x.2)) := by unfold nstep; simp only; rw [if_neg c1, if_neg c2]
        rw [e, nfold_ins r _ _ (by simp only; omega) h2.tail]
        simp [insL, c1, c2]
theorem nins_ins (r : List (Int × Int)) (s : Int × Int) (h : Can r) : nins r s = if s.2 < s.1 then r else insL s r := by
  unfold nins
  by_cases h1 : s.2 < s.1
  · rw [if_pos h1, if_pos h1]
  · rw [if_neg h1, if_neg h1]
    have := nfold_ins r [] s (by omega) h
    rw [List.nil_append] at this
    rw [← this]
    rfl
theorem insL_sep (z : Int × Int) : ∀ (r : List (Int × Int)) (s : Int × Int), z.2 + 1 < s.1 → (∀ x ∈ r, z.2 + 1 < x.1) → ∀ y ∈ insL s r, z.2 + 1 < y.1
  | [], s, h, _, y, hy => by simp [insL] at hy; subst hy; exact h
  | x :: r, s, h, h2, y, hy => by
    have hx := h2 x (by simp)
    have hr : ∀ y ∈ r, z.2 + 1 < y.1 := fun y hy => h2 y (by simp [hy])
    unfold insL at hy
    split at hy
    · rcases List.mem_cons.1 hy with rfl | hy
      · exact hx
      · exact insL_sep z r s h hr y hy
    · split at hy
      · rcases List.mem_cons.1 hy with rfl | hy
        · exact h
        · exact h2 y hy
      · exact insL_sep z r _ (by simp only; omega) hr y hy
theorem insL_can : ∀ (r : List (Int × Int)) (s : Int × Int), s.1 ≤ s.2 → Can r → Can (insL s r)
  | [], s, h, _ => Can.nil.cons h (fun _ h => by cases h)
  | x :: r, s, h, h2 => by
    have hx := h2.head
    unfold insL
    split
    · rename_i c1
      exact (insL_can r s h h2.tail).cons hx (insL_sep x r s c1 h2.sep)
    · split
      · rename_i c1 c2
        refine h2.cons h fun y hy => ?_
        rcases List.mem_cons.1 hy with rfl | hy
        · exact c2
        · have := h2.sep y hy; omega
      · exact insL_can r _ (by simp only; omega) h2.tail
theorem insL_mem (n : Int) : ∀ (r : List (Int × Int)) (s : Int × Int), s.1 ≤ s.2 → Can r → (mem (insL s r) n ↔ mem r n ∨ (s.1 ≤ n ∧ n ≤ s.2))
  | [], s, _, _ => by simp [insL, mem]
  | x :: r, s, h, h2 => by
    have hx := h2.head
    unfold insL
    split
    · rename_i c1
      rw [mem_cons, mem_cons, insL_mem n r s h h2.tail, or_assoc]
    · split
      · rename_i c1 c2
        rw [mem_cons s, Or.comm]
      · rename_i c1 c2
        rw [insL_mem n r _ (by simp only; omega) h2.tail, mem_cons]
        simp only
        constructor
        · rintro (h3 | h3)
          · exact .inl (.inr h3)
          · by_cases h4 : x.1 ≤ n ∧ n ≤ x.2
            · exact .inl (.inl h4)
            · exact .inr (by omega)
        · rintro ((h3 | h3) | h3)
          · exact .inr (by omega)
          · exact .inl h3
          · exact .inr (by omega)
theorem normalL_spec (l : List (Int × Int)) : Can (normalL l) ∧ ∀ n, mem (normalL l) n ↔ mem l n := by
  have key : ∀ (l out : List (Int × Int)), Can out → Can (l.foldl nins out) ∧ ∀ n, mem (l.foldl nins out) n ↔ mem out n ∨ mem l n := by
    intro l
    induction l with
    | nil => intro out h; exact ⟨h, fun n => by simp [mem_nil]⟩
    | cons s l ih =>
      intro out h
      have e := nins_ins out s h
      rw [List.foldl_cons, e]
      by_cases h1 : s.2 < s.1
      · rw [if_pos h1]
        refine ⟨(ih out h).1, fun n => ?_⟩
        rw [(ih out h).2, mem_cons]
        constructor
        · rintro (h2 | h2)
          · exact .inl h2
          · exact .inr (.inr h2)
        · rintro (h2 | h2 | h2)
          · exact .inl h2
          · omega
          · exact .inr h2
      · rw [if_neg h1]
        have hc := insL_can out s (by omega) h
        refine ⟨(ih _ hc).1, fun n => ?_⟩
        rw [(ih _ hc).2, insL_mem n out s (by omega) h, mem_cons, or_assoc]
  have := key l [] Can.nil
  exact ⟨this.1, fun n => by rw [show normalL l = l.foldl nins [] from rfl, this.2]; simp [mem_nil]⟩
/-- a normal form is its own -/
theorem normalL_can {l : List (Int × Int)} (h : Can l) : normalL l = l := Can.unique (normalL_spec l).1 h (normalL_spec l).2

/-- the program's join of sorted spans -/
theorem jstep_spec {out : List (Int × Int)} {s : Int × Int} (h : Can out) (hs : s.1 ≤ s.2) (hlt : ∀ x ∈ out, x.1 ≤ s.1) :
    Can (jstep (fun u => u + 1) out s) ∧ (∀ n, mem (jstep (fun u => u + 1) out s) n ↔ mem out n ∨ (s.1 ≤ n ∧ n ≤ s.2)) ∧ ∀ x ∈ jstep (fun u => u + 1) out s, x.1 ≤ s.1 := by
  rcases List.eq_nil_or_concat out with rfl | ⟨pre, t, rfl⟩
  · rw [jstep_nil]
    exact ⟨Can.nil.cons hs (fun _ h => by cases h), fun n => by simp [mem], fun x hx => by simp at hx; subst hx; exact Int.le_refl _⟩
  · rw [List.concat_eq_append] at *
    rw [jstep_snoc]
    have hp := List.pairwise_append.1 h.2
    have ht := h.1 t (by simp)
    have hts := hlt t (by simp)
    split
    · rename_i c
      refine ⟨⟨fun x hx => ?_, ?_⟩, fun n => ?_, fun x hx => ?_⟩
      · rcases List.mem_append.1 hx with hx | hx
        · exact h.1 x (by simp [hx])
        · simp at hx; subst hx; simp only; omega
      · refine List.pairwise_append.2 ⟨hp.1, List.pairwise_singleton _ _, fun x hx y hy => ?_⟩
        simp at hy
        subst hy
        exact hp.2.2 x hx t (by simp)
      · rw [mem_append, mem_append, or_assoc]
        apply or_congr Iff.rfl
        simp only [mem_cons, mem_nil, or_false]
        omega
      · rcases List.mem_append.1 hx with hx | hx
        · exact hlt x (by simp [hx])
        · simp at hx; subst hx; exact hts
    · rename_i c
      refine ⟨⟨fun x hx => ?_, ?_⟩, fun n => ?_, fun x hx => ?_⟩
      · rcases List.mem_append.1 hx with hx | hx
        · exact h.1 x hx
        · simp at hx; subst hx; exact hs
      · refine List.pairwise_append.2 ⟨h.2, List.pairwise_singleton _ _, fun x hx y hy => ?_⟩
        simp at hy
        subst hy
        rcases List.mem_append.1 hx with hx | hx
        · have h3 : x.2 + 1 < t.1 := hp.2.2 x hx t (by simp)
          show x.2 + 1 < y.1
          omega
        · simp at hx; subst hx; show x.2 + 1 < y.1; omega
      · rw [mem_append (pre ++ [t])]
        simp only [mem_cons, mem_nil, or_false]
      · rcases List.mem_append.1 hx with hx | hx
        · exact hlt x hx
        · simp at hx; subst hx; exact Int.le_refl _
theorem joinL_spec (l : List (Int × Int)) (h : ∀ s ∈ l, s.1 ≤ s.2) (hs : l.Pairwise (fun a b => a.1 ≤ b.1)) : Can (joinL (fun u => u + 1) l) ∧ ∀ n, mem (joinL (fun u => u + 1) l) n ↔ mem l n := by
  have key : ∀ (l out : List (Int × Int)), Can out → (∀ s ∈ l, s.1 ≤ s.2) → l.Pairwise (fun a b => a.1 ≤ b.1) → (∀ x ∈ out, ∀ s ∈ l, x.1 ≤ s.1) →
      Can (l.foldl (jstep (fun u => u + 1)) out) ∧ ∀ n, mem (l.foldl (jstep (fun u => u + 1)) out) n ↔ mem out n ∨ mem l n := by
    intro l
    induction l with
    | nil => intro out h _ _ _; exact ⟨h, fun n => by simp [mem_nil]⟩
    | cons s l ih =>
      intro out h h1 h2 h3
      have hp := List.pairwise_cons.1 h2
      obtain ⟨k1, k2, k3⟩ := jstep_spec h (h1 s (by simp)) (fun x hx => h3 x hx s (by simp))
      have := ih (jstep (fun u => u + 1) out s) k1 (fun x hx => h1 x (by simp [hx])) hp.2 (fun x hx y hy => Int.le_trans (k3 x hx) (hp.1 y hy))
      refine ⟨this.1, fun n => ?_⟩
      rw [List.foldl_cons, this.2, k2, mem_cons, or_assoc]
  have := key l [] Can.nil h hs (fun _ h => by cases h)
  exact ⟨this.1, fun n => by rw [show joinL (fun u => u + 1) l = l.foldl (jstep (fun u => u + 1)) [] from rfl, this.2]; simp [mem_nil]⟩

theorem mem_filter_ok (l : List (Int × Int)) (n : Int) : mem (l.filter okS) n ↔ mem l n := by
  constructor
  · rintro ⟨s, hs, h⟩; exact ⟨s, (List.mem_filter.1 hs).1, h⟩
  · rintro ⟨s, hs, h⟩; exact ⟨s, List.mem_filter.2 ⟨hs, by unfold okS; simp; omega⟩, h⟩
theorem join_whole (l l' : List (Int × Int)) (hp : l'.Perm (l.foldl istep [])) (hs : l'.Pairwise (fun a b => a.1 ≤ b.1)) : joinL (fun u => u + 1) l' = intsR l := by
  have hne : ∀ s ∈ l', s.1 ≤ s.2 := fun s hs => by
    have := hp.mem_iff.1 hs
    rw [istep_eq] at this
    simp only [List.nil_append, List.mem_filter] at this
    have := this.2
    unfold okS at this
    simpa using this
  have h1 := joinL_spec l' hne hs
  have h2 := normalL_spec (l.map clampI)
  refine Can.unique h1.1 h2.1 fun n => ?_
  rw [h1.2, mem_perm hp, istep_eq, List.nil_append, mem_filter_ok]
  exact (h2.2 n).symm

/-! ### ranks -/
theorem rank_unrank (k : Int) : rankI (unrankI k) = k := by unfold rankI unrankI; omega
theorem unrank_nw (k : Int) : ¬ unrankI k % 10000 = 0 := by unfold unrankI; omega
theorem unrank_rank (u : Int) (h : ¬ u % 10000 = 0) : unrankI (rankI u) = u := by unfold rankI unrankI; omega
theorem unrank_lt (a b : Int) : unrankI a < unrankI b ↔ a < b := by unfold unrankI; omega
theorem unrank_le (a b : Int) : unrankI a ≤ unrankI b ↔ a ≤ b := by unfold unrankI; omega
theorem unrank_le_iff (k u : Int) (h : ¬ u % 10000 = 0) : unrankI k ≤ u ↔ k ≤ rankI u := by
  rw [← unrank_le k, unrank_rank u h]
theorem le_unrank_iff (k u : Int) (h : ¬ u % 10000 = 0) : u ≤ unrankI k ↔ rankI u ≤ k := by
  rw [← unrank_le _ k, unrank_rank u h]
theorem rank_le (a b : Int) (ha : ¬ a % 10000 = 0) (hb : ¬ b % 10000 = 0) : rankI a ≤ rankI b ↔ a ≤ b := by
  rw [← unrank_le, unrank_rank a ha, unrank_rank b hb]
theorem after_unrank (k : Int) : afterI (unrankI k) = unrankI (k + 1) := by
  unfold afterI unrankI
  split <;> omega
theorem before_unrank (k : Int) : beforeI (unrankI k) = unrankI (k - 1) := by
  unfold beforeI unrankI
  split <;> omega
theorem unrank_max (a b : Int) : unrankI (max a b) = max (unrankI a) (unrankI b) := by
  have := unrank_le a b
  by_cases h : a ≤ b
  · rw [Int.max_eq_right h, Int.max_eq_right (this.2 h)]
  · rw [Int.max_eq_left (by omega), Int.max_eq_left (by have := (unrank_le b a).2 (by omega); omega)]
theorem mem_unrank (c : List (Int × Int)) (u : Int) (h : ¬ u % 10000 = 0) : mem (c.map unrankS) u ↔ mem c (rankI u) := by
  constructor
  · rintro ⟨s, hs, h1, h2⟩
    obtain ⟨t, ht, rfl⟩ := List.mem_map.1 hs
    exact ⟨t, ht, (unrank_le_iff _ _ h).1 h1, (le_unrank_iff _ _ h).1 h2⟩
  · rintro ⟨t, ht, h1, h2⟩
    exact ⟨unrankS t, List.mem_map.2 ⟨t, ht, rfl⟩, (unrank_le_iff _ _ h).2 h1, (le_unrank_iff _ _ h).2 h2⟩
theorem unrankS_inj {a b : List (Int × Int)} (h : a.map unrankS = b.map unrankS) : a = b := by
  have : (a.map unrankS).map rankS = (b.map unrankS).map rankS := by rw [h]
  simpa [List.map_map, Function.comp_def, rankS, unrankS, rank_unrank] using this
theorem jstep_unrank (out : List (Int × Int)) (s : Int × Int) : jstep afterI (out.map unrankS) (unrankS s) = (jstep (fun u => u + 1) out s).map unrankS := by
  rcases List.eq_nil_or_concat out with rfl | ⟨pre, t, rfl⟩
  · rfl
  · rw [List.concat_eq_append, List.map_append]
    simp only [List.map_cons, List.map_nil]
    rw [jstep_snoc, jstep_snoc]
    have e : ((unrankS s).1 ≤ afterI (unrankS t).2) ↔ s.1 ≤ t.2 + 1 := by
      show unrankI s.1 ≤ afterI (unrankI t.2) ↔ _
      rw [after_unrank, unrank_le]
    by_cases h : s.1 ≤ t.2 + 1
    · rw [if_pos (e.2 h), if_pos h]
      simp [unrankS, unrank_max]
    · rw [if_neg (fun k => h (e.1 k)), if_neg h]
      simp
theorem joinL_unrank (l : List (Int × Int)) : joinL afterI (l.map unrankS) = (joinL (fun u => u + 1) l).map unrankS := by
  have key : ∀ (l out : List (Int × Int)), (l.map unrankS).foldl (jstep afterI) (out.map unrankS) = (l.foldl (jstep (fun u => u + 1)) out).map unrankS := by
    intro l
    induction l with
    | nil => intro out; rfl
    | cons s l ih => intro out; rw [List.map_cons, List.foldl_cons, jstep_unrank, ih, List.foldl_cons]
  exact key l []
theorem upF_nw (u : Int) : ¬ upF u % 10000 = 0 := by unfold upF; split <;> omega
theorem dnF_nw (u : Int) : ¬ dnF u % 10000 = 0 := by unfold dnF; split <;> omega
theorem fstep_eq (l acc : List (Int × Int)) : l.foldl fstep acc = acc ++ ((l.map clampF).filter okS).map rankS := by
  induction l generalizing acc with
  | nil => simp
  | cons s l ih => rw [List.foldl_cons, ih]; unfold fstep; by_cases h : okS (clampF s) = true <;> simp [h]
theorem join_after (l l' : List (Int × Int)) (hp : l'.Perm (l.foldl pstep [])) (hs : l'.Pairwise (fun a b => a.1 ≤ b.1)) : joinL afterI l' = (fracsR l).map unrankS := by
  rw [pstep_eq, List.nil_append] at hp
  have hne : ∀ s ∈ l', s.1 ≤ s.2 ∧ ¬ s.1 % 10000 = 0 ∧ ¬ s.2 % 10000 = 0 := fun s hs => by
    have := List.mem_filter.1 (hp.mem_iff.1 hs)
    obtain ⟨x, _, rfl⟩ := List.mem_map.1 this.1
    have h2 := this.2
    unfold okS at h2
    exact ⟨by simpa using h2, upF_nw _, dnF_nw _⟩
  have e : l' = (l'.map rankS).map unrankS := by
    rw [List.map_map]
    conv => lhs; rw [← List.map_id l']
    refine List.map_congr_left fun s hs => ?_
    have := hne s hs
    simp [rankS, unrankS, unrank_rank _ this.2.1, unrank_rank _ this.2.2]
  have h1 := joinL_spec (l'.map rankS) (fun s hs => by
    obtain ⟨x, hx, rfl⟩ := List.mem_map.1 hs
    have := hne x hx
    exact (rank_le _ _ this.2.1 this.2.2).2 this.1) (by
    rw [List.pairwise_map]
    refine hs.imp_of_mem fun {a b} ha hb hab => ?_
    exact (rank_le _ _ (hne a ha).2.1 (hne b hb).2.1).2 hab)
  have h2 := normalL_spec (l.foldl fstep [])
  rw [e, joinL_unrank]
  congr 1
  refine Can.unique h1.1 h2.1 fun n => ?_
  rw [h1.2]
  refine Iff.trans ?_ (h2.2 n).symm
  rw [fstep_eq, List.nil_append]
  exact mem_perm (hp.map rankS) n

/-! ### gaps -/
def gapL (hi : Int) : List (Int × Int) → Int → List (Int × Int)
  | [], lo => if lo ≤ hi then [(lo, hi)] else []
  | s :: r, lo => (if lo < s.1 then [(lo, s.1 - 1)] else []) ++ gapL hi r (s.2 + 1)
theorem gapsR_gapL (l : List (Int × Int)) (lo hi : Int) : gapsR l lo hi = gapL hi l lo := by
  have key : ∀ (l acc : List (Int × Int)) (lo : Int), (if (l.foldl gstep (acc, lo)).2 ≤ hi then (l.foldl gstep (acc, lo)).1 ++ [((l.foldl gstep (acc, lo)).2, hi)] else (l.foldl gstep (acc, lo)).1) = acc ++ gapL hi l lo := by
    intro l
    induction l with
    | nil =>
      intro acc lo
      show (if lo ≤ hi then acc ++ [(lo, hi)] else acc) = acc ++ (if lo ≤ hi then [(lo, hi)] else [])
      split <;> simp
    | cons s l ih =>
      intro acc lo
      rw [List.foldl_cons]
      have e : gstep (acc, lo) s = (acc ++ (if lo < s.1 then [(lo, s.1 - 1)] else []), s.2 + 1) := by
        unfold gstep; simp only; split <;> simp
      rw [e, ih, gapL, List.append_assoc]
  have := key l [] lo
  rw [List.nil_append] at this
  exact this
theorem gapL_spec (hi : Int) : ∀ (l : List (Int × Int)) (lo : Int), Can l → (∀ s ∈ l, lo ≤ s.1 ∧ s.2 ≤ hi) →
    Can (gapL hi l lo) ∧ (∀ s ∈ gapL hi l lo, lo ≤ s.1 ∧ s.2 ≤ hi) ∧ ∀ n, mem (gapL hi l lo) n ↔ lo ≤ n ∧ n ≤ hi ∧ ¬ mem l n
  | [], lo, _, _ => by
    unfold gapL
    by_cases h : lo ≤ hi
    · rw [if_pos h]
      exact ⟨Can.nil.cons h (fun _ h => by cases h), fun s hs => by simp at hs; subst hs; exact ⟨Int.le_refl _, Int.le_refl _⟩, fun n => by simp [mem]⟩
    · rw [if_neg h]
      exact ⟨Can.nil, fun s hs => (by cases hs), fun n => ⟨fun h => ((mem_nil n).1 h).elim, fun h1 => by omega⟩⟩
  | s :: r, lo, hc, hb => by
    have hs := hb s (by simp)
    have hh := hc.head
    obtain ⟨k1, k2, k3⟩ := gapL_spec hi r (s.2 + 1) hc.tail (fun x hx => ⟨by have := hc.sep x hx; omega, (hb x (by simp [hx])).2⟩)
    have hmem : ∀ n, mem (gapL hi r (s.2 + 1)) n ↔ s.2 + 1 ≤ n ∧ n ≤ hi ∧ ¬ mem (s :: r) n := fun n => by
      rw [k3, mem_cons]
      constructor
      · rintro ⟨h1, h2, h3⟩
        refine ⟨h1, h2, ?_⟩
        rintro (h4 | h4)
        · omega
        · exact h3 h4
      · rintro ⟨h1, h2, h3⟩
        exact ⟨h1, h2, fun h4 => h3 (.inr h4)⟩
    have hlow : ∀ n, n < s.1 → ¬ mem (s :: r) n := fun n hn hm => by have := hc.least hm; omega
    have hin : ∀ n, s.1 ≤ n → n ≤ s.2 → mem (s :: r) n := fun n h1 h2 => (mem_cons _ _ _).2 (.inl ⟨h1, h2⟩)
    unfold gapL
    by_cases h : lo < s.1
    · rw [if_pos h]
      refine ⟨k1.cons (by simp only; omega) (fun x hx => by have := k2 x hx; simp only; omega), fun x hx => ?_, fun n => ?_⟩
      · rw [List.singleton_append] at hx
        rcases List.mem_cons.1 hx with rfl | hx
        · exact ⟨Int.le_refl _, by simp only; omega⟩
        · have := k2 x hx; omega
      · rw [List.singleton_append, mem_cons, hmem]
        simp only
        constructor
        · rintro (h1 | h1)
          · exact ⟨h1.1, by omega, hlow n (by omega)⟩
          · exact ⟨by omega, h1.2⟩
        · rintro ⟨h1, h2, h3⟩
          by_cases h4 : n < s.1
          · exact .inl ⟨h1, by omega⟩
          · by_cases h5 : n ≤ s.2
            · exact absurd (hin n (by omega) h5) h3
            · exact .inr ⟨by omega, h2, h3⟩
    · rw [if_neg h, List.nil_append]
      refine ⟨k1, fun x hx => by have := k2 x hx; omega, fun n => ?_⟩
      rw [hmem]
      constructor
      · rintro ⟨h1, h2, h3⟩; exact ⟨by omega, h2, h3⟩
      · rintro ⟨h1, h2, h3⟩
        by_cases h5 : n ≤ s.2
        · exact absurd (hin n (by omega) h5) h3
        · exact ⟨by omega, h2, h3⟩
theorem gapsR_spec (l : List (Int × Int)) (lo hi : Int) (hc : Can l) (hb : ∀ s ∈ l, lo ≤ s.1 ∧ s.2 ≤ hi) :
    Can (gapsR l lo hi) ∧ (∀ s ∈ gapsR l lo hi, lo ≤ s.1 ∧ s.2 ≤ hi) ∧ ∀ n, mem (gapsR l lo hi) n ↔ lo ≤ n ∧ n ≤ hi ∧ ¬ mem l n := by
  rw [gapsR_gapL]; exact gapL_spec hi l lo hc hb
theorem pgaps_whole (l : List (Int × Int)) (lo hi : Int) : pgaps (fun u => u + 1) (fun u => u - 1) l lo hi = gapsR l lo hi := by
  have e : pstepG (fun u => u + 1) (fun u => u - 1) = gstep := by
    funext st s
    unfold pstepG gstep
    simp only
    by_cases h : st.2 < s.1
    · rw [if_pos h, if_pos (by omega)]
    · rw [if_neg h, if_neg (by omega)]
  unfold pgaps gapsR pfoldG gfold
  rw [e]
theorem pgaps_after (c : List (Int × Int)) (lo hi : Int) : pgaps afterI beforeI (c.map unrankS) (unrankI lo) (unrankI hi) = (gapsR c lo hi).map unrankS := by
  have key : ∀ (l acc : List (Int × Int)) (lo : Int), (l.map unrankS).foldl (pstepG afterI beforeI) (acc.map unrankS, unrankI lo) = (((l.foldl gstep (acc, lo)).1).map unrankS, unrankI (l.foldl gstep (acc, lo)).2) := by
    intro l
    induction l with
    | nil => intro acc lo; rfl
    | cons s l ih =>
      intro acc lo
      rw [List.map_cons, List.foldl_cons, List.foldl_cons]
      have e : pstepG afterI beforeI (acc.map unrankS, unrankI lo) (unrankS s) = ((gstep (acc, lo) s).1.map unrankS, unrankI (gstep (acc, lo) s).2) := by
        unfold pstepG gstep unrankS
        simp only [before_unrank, after_unrank, unrank_le]
        by_cases h : lo < s.1
        · rw [if_pos h, if_pos (by omega)]; simp
        · rw [if_neg h, if_neg (by omega)]
      rw [e, ih]
  have := key c [] lo
  unfold pgaps gapsR pfoldG gfold
  rw [List.map_nil] at this
  rw [this]
  simp only [unrank_le]
  split
  · simp [unrankS]
  · rfl

/-! ### common -/
theorem cstep_mem (x : Int × Int) (n : Int) : ∀ (b acc : List (Int × Int)), mem (b.foldl (cstep x) acc) n ↔ mem acc n ∨ ((x.1 ≤ n ∧ n ≤ x.2) ∧ mem b n)
  | [], acc => by simp [mem_nil]
  | y :: b, acc => by
    rw [List.foldl_cons, cstep_mem x n b, mem_cons]
    have : mem (cstep x acc y) n ↔ mem acc n ∨ ((x.1 ≤ n ∧ n ≤ x.2) ∧ (y.1 ≤ n ∧ n ≤ y.2)) := by
      unfold cstep okS meet
      simp only
      by_cases h : max x.1 y.1 ≤ min x.2 y.2
      · rw [if_pos (by simpa using h), mem_append]
        apply or_congr Iff.rfl
        simp only [mem_cons, mem_nil, or_false]
        omega
      · rw [if_neg (by simpa using h)]
        constructor
        · exact .inl
        · rintro (h1 | h1)
          · exact h1
          · omega
    rw [this, or_assoc]
    apply or_congr Iff.rfl
    rw [← and_or_left]
theorem commonL_mem (a b : List (Int × Int)) (n : Int) : mem (commonL a b) n ↔ mem a n ∧ mem b n := by
  have key : ∀ (a acc : List (Int × Int)), mem (a.foldl (ostep b) acc) n ↔ mem acc n ∨ (mem a n ∧ mem b n) := by
    intro a
    induction a with
    | nil => intro acc; simp [mem_nil]
    | cons x a ih =>
      intro acc
      rw [List.foldl_cons, ih, ostep, cstep_mem, mem_cons, or_assoc]
      apply or_congr Iff.rfl
      rw [← or_and_right]
  have := key a []
  rw [show commonL a b = a.foldl (ostep b) [] from rfl, this]
  simp [mem_nil]
end Go.Proofs.Ytaianhhmmacblaa
/-
  Sets of numbers: members, canonical representations, and what the operations mean.
-/
namespace Go.Proofs.Ytaianhhmmacblaa

def rI (l : List (Int × Int)) : Prop := ∀ s ∈ l, -100000000000 ≤ s.1 ∧ s.2 ≤ 100000000000
def rF (l : List (Int × Int)) : Prop := ∀ s ∈ l, -999900000000000 ≤ s.1 ∧ s.2 ≤ 999899999999999
theorem can_rng {l : List (Int × Int)} {lo hi : Int} (h : Can l) (hm : ∀ n, mem l n → lo ≤ n ∧ n ≤ hi) : ∀ s ∈ l, lo ≤ s.1 ∧ s.2 ≤ hi := fun s hs =>
  ⟨(hm s.1 ⟨s, hs, Int.le_refl _, h.1 s hs⟩).1, (hm s.2 ⟨s, hs, h.1 s hs, Int.le_refl _⟩).2⟩
theorem rng_mem {l : List (Int × Int)} {lo hi : Int} (h : ∀ s ∈ l, lo ≤ s.1 ∧ s.2 ≤ hi) {n : Int} (hn : mem l n) : lo ≤ n ∧ n ≤ hi := by
  obtain ⟨s, hs, h1, h2⟩ := hn
  have := h s hs
  omega
theorem intsR_spec (l : List (Int × Int)) : Can (intsR l) ∧ rI (intsR l) ∧ ∀ n, mem (intsR l) n ↔ (-100000000000 ≤ n ∧ n ≤ 100000000000) ∧ mem l n := by
  have h := normalL_spec (l.map clampI)
  have hm : ∀ n, mem (intsR l) n ↔ (-100000000000 ≤ n ∧ n ≤ 100000000000) ∧ mem l n := fun n => by
    refine Iff.trans (h.2 n) ?_
    constructor
    · rintro ⟨s, hs, h1, h2⟩
      obtain ⟨x, hx, rfl⟩ := List.mem_map.1 hs
      unfold clampI at h1 h2
      simp only at h1 h2
      exact ⟨by omega, x, hx, by omega, by omega⟩
    · rintro ⟨h0, x, hx, h1, h2⟩
      refine ⟨clampI x, List.mem_map.2 ⟨x, hx, rfl⟩, ?_, ?_⟩
      · unfold clampI; simp only; omega
      · unfold clampI; simp only; omega
  exact ⟨h.1, can_rng h.1 fun n hn => ((hm n).1 hn).1, hm⟩
theorem upF_le_iff (a u : Int) (h : ¬ u % 10000 = 0) : upF a ≤ u ↔ a ≤ u := by unfold upF; split <;> omega
theorem le_dnF_iff (a u : Int) (h : ¬ u % 10000 = 0) : u ≤ dnF a ↔ u ≤ a := by unfold dnF; split <;> omega
theorem fracsR_spec (l : List (Int × Int)) : Can (fracsR l) ∧ rF (fracsR l) ∧ ∀ u, ¬ u % 10000 = 0 → (mem (fracsR l) (rankI u) ↔ (-1000000000000000 ≤ u ∧ u ≤ 1000000000000000) ∧ mem l u) := by
  have h := normalL_spec (l.foldl fstep [])
  have hm : ∀ u, ¬ u % 10000 = 0 → (mem (fracsR l) (rankI u) ↔ (-1000000000000000 ≤ u ∧ u ≤ 1000000000000000) ∧ mem l u) := fun u hu => by
    refine Iff.trans (h.2 _) ?_
    rw [fstep_eq, List.nil_append]
    constructor
    · rintro ⟨s, hs, h1, h2⟩
      obtain ⟨y, hy, rfl⟩ := List.mem_map.1 hs
      obtain ⟨x, hx, rfl⟩ := List.mem_map.1 (List.mem_filter.1 hy).1
      have h3 := (rank_le _ _ (upF_nw _) hu).1 h1
      have h4 := (rank_le _ _ hu (dnF_nw _)).1 h2
      rw [upF_le_iff _ _ hu] at h3
      rw [le_dnF_iff _ _ hu] at h4
      exact ⟨by omega, x, hx, by omega, by omega⟩
    · rintro ⟨h0, x, hx, h1, h2⟩
      have h3 : upF (max x.1 (-1000000000000000)) ≤ u := (upF_le_iff _ _ hu).2 (by omega)
      have h4 : u ≤ dnF (min x.2 1000000000000000) := (le_dnF_iff _ _ hu).2 (by omega)
      refine ⟨rankS (clampF x), List.mem_map.2 ⟨clampF x, List.mem_filter.2 ⟨List.mem_map.2 ⟨x, hx, rfl⟩, ?_⟩, rfl⟩, (rank_le _ _ (upF_nw _) hu).2 h3, (rank_le _ _ hu (dnF_nw _)).2 h4⟩
      unfold okS clampF
      simp only [decide_eq_true_eq]
      omega
  refine ⟨h.1, can_rng h.1 fun n hn => ?_, hm⟩
  have := (hm (unrankI n) (unrank_nw n)).1 (by rw [rank_unrank]; exact hn)
  have := this.1
  unfold unrankI at this
  omega

/-- a number is a member -/
def inN (d : Nm) (u : Int) : Prop := (-1000000000000000 ≤ u ∧ u ≤ 1000000000000000) ∧ if u % 10000 = 0 then mem d.ints (u / 10000) else mem d.fracs u
structure CanN (d : Nm) : Prop where
  ci : Can d.ints
  ri : rI d.ints
  cf : ∃ c, Can c ∧ rF c ∧ d.fracs = c.map unrankS
theorem inN_whole (d : Nm) (n : Int) : inN d (n * 10000) ↔ (-100000000000 ≤ n ∧ n ≤ 100000000000) ∧ mem d.ints n := by
  unfold inN
  rw [if_pos (by omega), show n * 10000 / 10000 = n by omega]
  apply and_congr_left
  intro _
  omega
theorem inN_frac (d : Nm) (k : Int) : inN d (unrankI k) ↔ (-999900000000000 ≤ k ∧ k ≤ 999899999999999) ∧ mem d.fracs (unrankI k) := by
  unfold inN
  rw [if_neg (unrank_nw k)]
  apply and_congr_left
  intro _
  unfold unrankI
  omega
theorem CanN.ext {a b : Nm} (ha : CanN a) (hb : CanN b) (h : ∀ u, inN a u ↔ inN b u) : a = b := by
  obtain ⟨c, hc1, hc2, hc3⟩ := ha.cf
  obtain ⟨e, he1, he2, he3⟩ := hb.cf
  have hi : a.ints = b.ints := ha.ci.unique hb.ci fun n => by
    have := h (n * 10000)
    rw [inN_whole, inN_whole] at this
    constructor
    · intro hn; exact (this.1 ⟨rng_mem ha.ri hn, hn⟩).2
    · intro hn; exact (this.2 ⟨rng_mem hb.ri hn, hn⟩).2
  have hf : c = e := hc1.unique he1 fun k => by
    have := h (unrankI k)
    rw [inN_frac, inN_frac, hc3, he3, mem_unrank _ _ (unrank_nw k), mem_unrank _ _ (unrank_nw k), rank_unrank] at this
    constructor
    · intro hn; exact (this.1 ⟨rng_mem hc2 hn, hn⟩).2
    · intro hn; exact (this.2 ⟨rng_mem he2 hn, hn⟩).2
  obtain ⟨ai, af⟩ := a
  obtain ⟨bi, bf⟩ := b
  simp only at hi hc3 he3
  rw [hi, hc3, he3, hf]
theorem makeR_can (d : Nm) : CanN (makeR d) := ⟨(intsR_spec _).1, (intsR_spec _).2.1, ⟨fracsR d.fracs, (fracsR_spec _).1, (fracsR_spec _).2.1, rfl⟩⟩
theorem makeR_in (d : Nm) (u : Int) : inN (makeR d) u ↔ inN d u := by
  unfold inN
  by_cases h : u % 10000 = 0
  · rw [if_pos h, if_pos h]
    have := (intsR_spec d.ints).2.2 (u / 10000)
    rw [show (makeR d).ints = intsR d.ints from rfl, this]
    constructor
    · rintro ⟨h1, h2, h3⟩; exact ⟨h1, h3⟩
    · rintro ⟨h1, h3⟩; exact ⟨h1, by omega, h3⟩
  · rw [if_neg h, if_neg h, show (makeR d).fracs = (fracsR d.fracs).map unrankS from rfl, mem_unrank _ _ h, (fracsR_spec d.fracs).2.2 u h]
    constructor
    · rintro ⟨h1, h2, h3⟩; exact ⟨h1, h3⟩
    · rintro ⟨h1, h3⟩; exact ⟨h1, h1, h3⟩
theorem makeR_of_can {d : Nm} (h : CanN d) : makeR d = d := (makeR_can d).ext h (makeR_in d)
theorem makeR_eq_iff (a b : Nm) : makeR a = makeR b ↔ ∀ u, inN a u ↔ inN b u := by
  constructor
  · intro h u; rw [← makeR_in a, ← makeR_in b, h]
  · intro h; exact (makeR_can a).ext (makeR_can b) fun u => by rw [makeR_in, makeR_in, h u]
def vld (u : Int) : Prop := -1000000000000000 ≤ u ∧ u ≤ 1000000000000000
theorem vld_rank (u : Int) (h : ¬ u % 10000 = 0) : vld u ↔ -999900000000000 ≤ rankI u ∧ rankI u ≤ 999899999999999 := by unfold vld rankI; omega
theorem notR_can (a : Nm) : CanN (notR a) := by
  have h1 := gapsR_spec (intsR a.ints) (-100000000000) 100000000000 (intsR_spec _).1 (intsR_spec _).2.1
  have h2 := gapsR_spec (fracsR a.fracs) (-999900000000000) 999899999999999 (fracsR_spec _).1 (fracsR_spec _).2.1
  exact ⟨h1.1, h1.2.1, ⟨_, h2.1, h2.2.1, rfl⟩⟩
theorem notR_in (a : Nm) (u : Int) : inN (notR a) u ↔ vld u ∧ ¬ inN a u := by
  have h1 := (gapsR_spec (intsR a.ints) (-100000000000) 100000000000 (intsR_spec _).1 (intsR_spec _).2.1).2.2
  have h2 := (gapsR_spec (fracsR a.fracs) (-999900000000000) 999899999999999 (fracsR_spec _).1 (fracsR_spec _).2.1).2.2
  rw [← makeR_in a]
  unfold inN
  by_cases h : u % 10000 = 0
  · rw [if_pos h, if_pos h]
    rw [show (notR a).ints = gapsR (intsR a.ints) (-100000000000) 100000000000 from rfl, h1, show (makeR a).ints = intsR a.ints from rfl]
    unfold vld
    constructor
    · rintro ⟨k1, k2, k3, k4⟩; exact ⟨k1, fun k => k4 k.2⟩
    · rintro ⟨k1, k2⟩; exact ⟨k1, by omega, by omega, fun k => k2 ⟨k1, k⟩⟩
  · rw [if_neg h, if_neg h]
    rw [show (notR a).fracs = (gapsR (fracsR a.fracs) (-999900000000000) 999899999999999).map unrankS from rfl, mem_unrank _ _ h, h2, show (makeR a).fracs = (fracsR a.fracs).map unrankS from rfl, mem_unrank _ _ h]
    have hv := vld_rank u h
    constructor
    · rintro ⟨k1, k2, k3, k4⟩; exact ⟨k1, fun k => k4 k.2⟩
    · rintro ⟨k1, k2⟩; exact ⟨k1, (hv.1 k1).1, (hv.1 k1).2, fun k => k2 ⟨k1, k⟩⟩
theorem cat_in (a b : Nm) (u : Int) : inN ⟨a.ints ++ b.ints, a.fracs ++ b.fracs⟩ u ↔ inN a u ∨ inN b u := by
  unfold inN
  by_cases h : u % 10000 = 0
  · simp only [if_pos h, mem_append, and_or_left]
  · simp only [if_neg h, mem_append, and_or_left]
theorem orR_can (a b : Nm) : CanN (orR a b) := makeR_can _
theorem orR_in (a b : Nm) (u : Int) : inN (orR a b) u ↔ inN a u ∨ inN b u := by
  unfold orR; rw [makeR_in, cat_in]
theorem inN_vld {a : Nm} {u : Int} (h : inN a u) : vld u := h.1
theorem andR_can (a b : Nm) : CanN (andR a b) := notR_can _
theorem andR_in (a b : Nm) (u : Int) : inN (andR a b) u ↔ inN a u ∧ inN b u := by
  unfold andR
  rw [notR_in, orR_in, notR_in, notR_in]
  constructor
  · rintro ⟨h1, h2⟩
    refine ⟨Classical.byContradiction fun h => h2 (.inl ⟨h1, h⟩), Classical.byContradiction fun h => h2 (.inr ⟨h1, h⟩)⟩
  · rintro ⟨h1, h2⟩
    refine ⟨inN_vld h1, ?_⟩
    rintro (h3 | h3)
    · exact h3.2 h1
    · exact h3.2 h2
theorem minusR_can (a b : Nm) : CanN (minusR a b) := notR_can _
theorem minusR_in (a b : Nm) (u : Int) : inN (minusR a b) u ↔ inN a u ∧ ¬ inN b u := by
  unfold minusR
  rw [andR_in, notR_in]
  constructor
  · rintro ⟨h1, h2, h3⟩; exact ⟨h1, h3⟩
  · rintro ⟨h1, h3⟩; exact ⟨h1, inN_vld h1, h3⟩
/-! the program's -/
theorem andP_can (a b : Nm) : CanN (andP a b) := makeR_can _
theorem common_in (a b : Nm) (u : Int) : inN ⟨commonL a.ints b.ints, commonL a.fracs b.fracs⟩ u ↔ inN a u ∧ inN b u := by
  unfold inN
  by_cases h : u % 10000 = 0
  · simp only [if_pos h, commonL_mem]
    exact ⟨fun k => ⟨⟨k.1, k.2.1⟩, ⟨k.1, k.2.2⟩⟩, fun k => ⟨k.1.1, k.1.2, k.2.2⟩⟩
  · simp only [if_neg h, commonL_mem]
    exact ⟨fun k => ⟨⟨k.1, k.2.1⟩, ⟨k.1, k.2.2⟩⟩, fun k => ⟨k.1.1, k.1.2, k.2.2⟩⟩
theorem andP_eq (a b : Nm) : andP a b = andR a b := (andP_can a b).ext (andR_can a b) fun u => by
  unfold andP
  rw [makeR_in, common_in, makeR_in, makeR_in, andR_in]
theorem notP_eq (a : Nm) : notP a = notR a := by
  have h := pgaps_after (fracsR a.fracs) (-999900000000000) 999899999999999
  rw [show unrankI (-999900000000000) = -999999999999999 by decide, show unrankI 999899999999999 = 999999999999999 by decide] at h
  unfold notP
  rw [pgaps_whole, show (makeR a).fracs = (fracsR a.fracs).map unrankS from rfl, h]
  exact makeR_of_can (notR_can a)
theorem minusP_eq (a b : Nm) : minusP a b = minusR a b := by unfold minusP minusR; rw [andP_eq, notP_eq]
theorem not_in_nil (u : Int) : ¬ inN ⟨[], []⟩ u := by
  unfold inN
  rintro ⟨_, h⟩
  split at h
  · exact (mem_nil _).1 h
  · exact (mem_nil _).1 h
theorem nil_can : CanN ⟨[], []⟩ := ⟨Can.nil, fun _ h => (by cases h), ⟨[], Can.nil, fun _ h => (by cases h), rfl⟩⟩
theorem emptyR_iff (a : Nm) : emptyR a = true ↔ ∀ u, ¬ inN a u := by
  unfold emptyR
  rw [decide_eq_true_eq]
  constructor
  · intro h u hu
    rw [← makeR_in, h] at hu
    exact not_in_nil u hu
  · intro h
    exact (makeR_can a).ext nil_can fun u => ⟨fun hu => absurd ((makeR_in a u).1 hu) (h u), fun hu => absurd hu (not_in_nil u)⟩
theorem subsetR_iff (a b : Nm) : subsetR a b = true ↔ ∀ u, inN a u → inN b u := by
  unfold subsetR
  rw [emptyR_iff]
  constructor
  · intro h u hu
    exact Classical.byContradiction fun hn => h u ((minusR_in a b u).2 ⟨hu, hn⟩)
  · intro h u hu
    have := (minusR_in a b u).1 hu
    exact this.2 (h u this.1)
theorem subsetP_eq (a b : Nm) : sameN (makeR (minusP a b)) ⟨[], []⟩ = subsetR a b := by
  rw [minusP_eq]; rfl
theorem insideB_iff (l : List (Int × Int)) (n : Int) : insideB l n = true ↔ mem l n := by
  unfold insideB inB mem
  simp
theorem hasL_iff (d : Nm) (u : Int) : hasL d u = true ↔ inN d u := by
  unfold hasL inN
  rw [Bool.and_eq_true, valid_iff]
  apply and_congr Iff.rfl
  by_cases h : u % 10000 = 0
  · rw [if_pos h, if_pos h, insideB_iff]
  · rw [if_neg h, if_neg h, insideB_iff]
theorem hasP_iff (d : Nm) (u : Int) : hasP d u = true ↔ inN d u := by unfold hasP; rw [hasL_iff, makeR_in]
theorem hasP_eq (d : Nm) (u : Int) : hasP d u = hasL d u := by
  rw [Bool.eq_iff_iff, hasP_iff, hasL_iff]
theorem allN_can : CanN allN :=
  ⟨Can.nil.cons (by decide) (fun _ h => (by cases h)), fun s hs => by simp [allN] at hs; subst hs; exact ⟨by decide, by decide⟩,
   ⟨[(-999900000000000, 999899999999999)], Can.nil.cons (by decide) (fun _ h => (by cases h)), fun s hs => by simp at hs; subst hs; exact ⟨by decide, by decide⟩, by decide⟩⟩
theorem allN_in (u : Int) : inN allN u ↔ vld u := by
  unfold inN allN vld
  by_cases h : u % 10000 = 0
  · simp only [if_pos h, mem_cons, mem_nil, or_false]
    constructor
    · exact fun h => h.1
    · intro h; exact ⟨h, by omega, by omega⟩
  · simp only [if_neg h, mem_cons, mem_nil, or_false]
    constructor
    · exact fun h => h.1
    · intro h; exact ⟨h, by omega, by omega⟩
theorem sameN_tt (a b : Nm) : sameN a b = true ↔ a = b := by unfold sameN; rw [decide_eq_true_eq]
theorem validNR_iff (a : Nm) : validNR a = true ↔ CanN a := by
  unfold validNR
  rw [sameN_tt]
  exact ⟨fun h => by rw [h]; exact makeR_can a, fun h => (makeR_of_can h).symm⟩
/-! bounds -/
theorem makeR_bddI (d : Nm) : Bdd (makeR d).ints := fun s hs => by
  have h1 := (makeR_can d).ri s hs
  have h2 := (makeR_can d).ci.1 s hs
  omega
theorem makeR_bddF (d : Nm) : Bdd (makeR d).fracs := fun s hs => by
  obtain ⟨c, h1, h2, h3⟩ := (makeR_can d).cf
  rw [h3] at hs
  obtain ⟨x, hx, rfl⟩ := List.mem_map.1 hs
  have h4 := h2 x hx
  have h5 := h1.1 x hx
  unfold unrankS unrankI
  simp only
  omega
theorem pgaps_inr (d : Nm) : InR (pgaps afterI beforeI (makeR d).fracs (-999999999999999) 999999999999999) := by
  have h := pgaps_after (fracsR d.fracs) (-999900000000000) 999899999999999
  rw [show unrankI (-999900000000000) = -999999999999999 by decide, show unrankI 999899999999999 = 999999999999999 by decide] at h
  rw [show (makeR d).fracs = (fracsR d.fracs).map unrankS from rfl, h]
  intro s hs
  have h2 := gapsR_spec (fracsR d.fracs) (-999900000000000) 999899999999999 (fracsR_spec _).1 (fracsR_spec _).2.1
  obtain ⟨x, hx, rfl⟩ := List.mem_map.1 hs
  have h3 := h2.2.1 x hx
  have h4 := h2.1.1 x hx
  unfold unrankS unrankI
  simp only
  omega
end Go.Proofs.Ytaianhhmmacblaa
