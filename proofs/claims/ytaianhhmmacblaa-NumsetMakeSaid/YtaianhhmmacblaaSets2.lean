import Derived.Test.YtaianhhmmacblaaSets
/-
  Sets of numbers: members, canonical representations, and what the operations mean.
-/
namespace Go.Proofs.Ytaianhhmmacblaa

def rI (l : List (Int × Int)) : Prop := ∀ s ∈ l, -100000000000 ≤ s.1 ∧ s.2 ≤ 100000000000
def rF (l : List (Int × Int)) : Prop := ∀ s ∈ l, -999900000000000 ≤ s.1 ∧ s.2 ≤ 999899999999999
theorem can_rng {l : List (Int × Int)} {lo hi : Int} (h : Can l) (hm : ∀ n, mem l n → lo ≤ n ∧ n ≤ hi) : ∀ s ∈ l, lo ≤ s.1 ∧ s.2 ≤ hi := fun s hs =>
  ⟨(hm s.1 ⟨s, hs, Int.le_refl _, h.1 s hs⟩).1, (hm s.2 ⟨s, hs, h.1 s hs, Int.le_refl _⟩).2⟩
theorem rng_mem {l : List (Int × Int)} {lo hi : Int} (h : ∀ s ∈ l, lo ≤ s.1 ∧ s.2 ≤ hi) {n : Int} (hn : mem l n) : lo ≤ n ∧ n ≤ hi := by
  obtain ⟨s, hs, h1, h2⟩ := hn
  have := h s hs
  omega
theorem intsR_spec (l : List (Int × Int)) : Can (intsR l) ∧ rI (intsR l) ∧ ∀ n, mem (intsR l) n ↔ (-100000000000 ≤ n ∧ n ≤ 100000000000) ∧ mem l n := by
  have h := normalL_spec (l.map clampI)
  have hm : ∀ n, mem (intsR l) n ↔ (-100000000000 ≤ n ∧ n ≤ 100000000000) ∧ mem l n := fun n => by
    refine Iff.trans (h.2 n) ?_
    constructor
    · rintro ⟨s, hs, h1, h2⟩
      obtain ⟨x, hx, rfl⟩ := List.mem_map.1 hs
      unfold clampI at h1 h2
      simp only at h1 h2
      exact ⟨by omega, x, hx, by omega, by omega⟩
    · rintro ⟨h0, x, hx, h1, h2⟩
      refine ⟨clampI x, List.mem_map.2 ⟨x, hx, rfl⟩, ?_, ?_⟩
      · unfold clampI; simp only; omega
      · unfold clampI; simp only; omega
  exact ⟨h.1, can_rng h.1 fun n hn => ((hm n).1 hn).1, hm⟩
theorem upF_le_iff (a u : Int) (h : ¬ u % 10000 = 0) : upF a ≤ u ↔ a ≤ u := by unfold upF; split <;> omega
theorem le_dnF_iff (a u : Int) (h : ¬ u % 10000 = 0) : u ≤ dnF a ↔ u ≤ a := by unfold dnF; split <;> omega
theorem fracsR_spec (l : List (Int × Int)) : Can (fracsR l) ∧ rF (fracsR l) ∧ ∀ u, ¬ u % 10000 = 0 → (mem (fracsR l) (rankI u) ↔ (-1000000000000000 ≤ u ∧ u ≤ 1000000000000000) ∧ mem l u) := by
  have h := normalL_spec (l.foldl fstep [])
  have hm : ∀ u, ¬ u % 10000 = 0 → (mem (fracsR l) (rankI u) ↔ (-1000000000000000 ≤ u ∧ u ≤ 1000000000000000) ∧ mem l u) := fun u hu => by
    refine Iff.trans (h.2 _) ?_
    rw [fstep_eq, List.nil_append]
    constructor
    · rintro ⟨s, hs, h1, h2⟩
      obtain ⟨y, hy, rfl⟩ := List.mem_map.1 hs
      obtain ⟨x, hx, rfl⟩ := List.mem_map.1 (List.mem_filter.1 hy).1
      have h3 := (rank_le _ _ (upF_nw _) hu).1 h1
      have h4 := (rank_le _ _ hu (dnF_nw _)).1 h2
      rw [upF_le_iff _ _ hu] at h3
      rw [le_dnF_iff _ _ hu] at h4
      exact ⟨by omega, x, hx, by omega, by omega⟩
    · rintro ⟨h0, x, hx, h1, h2⟩
      have h3 : upF (max x.1 (-1000000000000000)) ≤ u := (upF_le_iff _ _ hu).2 (by omega)
      have h4 : u ≤ dnF (min x.2 1000000000000000) := (le_dnF_iff _ _ hu).2 (by omega)
      refine ⟨rankS (clampF x), List.mem_map.2 ⟨clampF x, List.mem_filter.2 ⟨List.mem_map.2 ⟨x, hx, rfl⟩, ?_⟩, rfl⟩, (rank_le _ _ (upF_nw _) hu).2 h3, (rank_le _ _ hu (dnF_nw _)).2 h4⟩
      unfold okS clampF
      simp only [decide_eq_true_eq]
      omega
  refine ⟨h.1, can_rng h.1 fun n hn => ?_, hm⟩
  have := (hm (unrankI n) (unrank_nw n)).1 (by rw [rank_unrank]; exact hn)
  have := this.1
  unfold unrankI at this
  omega

/-- a number is a member -/
def inN (d : Nm) (u : Int) : Prop := (-1000000000000000 ≤ u ∧ u ≤ 1000000000000000) ∧ if u % 10000 = 0 then mem d.ints (u / 10000) else mem d.fracs u
structure CanN (d : Nm) : Prop where
  ci : Can d.ints
  ri : rI d.ints
  cf : ∃ c, Can c ∧ rF c ∧ d.fracs = c.map unrankS
theorem inN_whole (d : Nm) (n : Int) : inN d (n * 10000) ↔ (-100000000000 ≤ n ∧ n ≤ 100000000000) ∧ mem d.ints n := by
  unfold inN
  rw [if_pos (by omega), show n * 10000 / 10000 = n by omega]
  apply and_congr_left
  intro _
  omega
theorem inN_frac (d : Nm) (k : Int) : inN d (unrankI k) ↔ (-999900000000000 ≤ k ∧ k ≤ 999899999999999) ∧ mem d.fracs (unrankI k) := by
  unfold inN
  rw [if_neg (unrank_nw k)]
  apply and_congr_left
  intro _
  unfold unrankI
  omega
theorem CanN.ext {a b : Nm} (ha : CanN a) (hb : CanN b) (h : ∀ u, inN a u ↔ inN b u) : a = b := by
  obtain ⟨c, hc1, hc2, hc3⟩ := ha.cf
  obtain ⟨e, he1, he2, he3⟩ := hb.cf
  have hi : a.ints = b.ints := ha.ci.unique hb.ci fun n => by
    have := h (n * 10000)
    rw [inN_whole, inN_whole] at this
    constructor
    · intro hn; exact (this.1 ⟨rng_mem ha.ri hn, hn⟩).2
    · intro hn; exact (this.2 ⟨rng_mem hb.ri hn, hn⟩).2
  have hf : c = e := hc1.unique he1 fun k => by
    have := h (unrankI k)
    rw [inN_frac, inN_frac, hc3, he3, mem_unrank _ _ (unrank_nw k), mem_unrank _ _ (unrank_nw k), rank_unrank] at this
    constructor
    · intro hn; exact (this.1 ⟨rng_mem hc2 hn, hn⟩).2
    · intro hn; exact (this.2 ⟨rng_mem he2 hn, hn⟩).2
  obtain ⟨ai, af⟩ := a
  obtain ⟨bi, bf⟩ := b
  simp only at hi hc3 he3
  rw [hi, hc3, he3, hf]
theorem makeR_can (d : Nm) : CanN (makeR d) := ⟨(intsR_spec _).1, (intsR_spec _).2.1, ⟨fracsR d.fracs, (fracsR_spec _).1, (fracsR_spec _).2.1, rfl⟩⟩
theorem makeR_in (d : Nm) (u : Int) : inN (makeR d) u ↔ inN d u := by
  unfold inN
  by_cases h : u % 10000 = 0
  · rw [if_pos h, if_pos h]
    have := (intsR_spec d.ints).2.2 (u / 10000)
    rw [show (makeR d).ints = intsR d.ints from rfl, this]
    constructor
    · rintro ⟨h1, h2, h3⟩; exact ⟨h1, h3⟩
    · rintro ⟨h1, h3⟩; exact ⟨h1, by omega, h3⟩
  · rw [if_neg h, if_neg h, show (makeR d).fracs = (fracsR d.fracs).map unrankS from rfl, mem_unrank _ _ h, (fracsR_spec d.fracs).2.2 u h]
    constructor
    · rintro ⟨h1, h2, h3⟩; exact ⟨h1, h3⟩
    · rintro ⟨h1, h3⟩; exact ⟨h1, h1, h3⟩
theorem makeR_of_can {d : Nm} (h : CanN d) : makeR d = d := (makeR_can d).ext h (makeR_in d)
theorem makeR_eq_iff (a b : Nm) : makeR a = makeR b ↔ ∀ u, inN a u ↔ inN b u := by
  constructor
  · intro h u; rw [← makeR_in a, ← makeR_in b, h]
  · intro h; exact (makeR_can a).ext (makeR_can b) fun u => by rw [makeR_in, makeR_in, h u]
def vld (u : Int) : Prop := -1000000000000000 ≤ u ∧ u ≤ 1000000000000000
theorem vld_rank (u : Int) (h : ¬ u % 10000 = 0) : vld u ↔ -999900000000000 ≤ rankI u ∧ rankI u ≤ 999899999999999 := by unfold vld rankI; omega
theorem notR_can (a : Nm) : CanN (notR a) := by
  have h1 := gapsR_spec (intsR a.ints) (-100000000000) 100000000000 (intsR_spec _).1 (intsR_spec _).2.1
  have h2 := gapsR_spec (fracsR a.fracs) (-999900000000000) 999899999999999 (fracsR_spec _).1 (fracsR_spec _).2.1
  exact ⟨h1.1, h1.2.1, ⟨_, h2.1, h2.2.1, rfl⟩⟩
theorem notR_in (a : Nm) (u : Int) : inN (notR a) u ↔ vld u ∧ ¬ inN a u := by
  have h1 := (gapsR_spec (intsR a.ints) (-100000000000) 100000000000 (intsR_spec _).1 (intsR_spec _).2.1).2.2
  have h2 := (gapsR_spec (fracsR a.fracs) (-999900000000000) 999899999999999 (fracsR_spec _).1 (fracsR_spec _).2.1).2.2
  rw [← makeR_in a]
  unfold inN
  by_cases h : u % 10000 = 0
  · rw [if_pos h, if_pos h]
    rw [show (notR a).ints = gapsR (intsR a.ints) (-100000000000) 100000000000 from rfl, h1, show (makeR a).ints = intsR a.ints from rfl]
    unfold vld
    constructor
    · rintro ⟨k1, k2, k3, k4⟩; exact ⟨k1, fun k => k4 k.2⟩
    · rintro ⟨k1, k2⟩; exact ⟨k1, by omega, by omega, fun k => k2 ⟨k1, k⟩⟩
  · rw [if_neg h, if_neg h]
    rw [show (notR a).fracs = (gapsR (fracsR a.fracs) (-999900000000000) 999899999999999).map unrankS from rfl, mem_unrank _ _ h, h2, show (makeR a).fracs = (fracsR a.fracs).map unrankS from rfl, mem_unrank _ _ h]
    have hv := vld_rank u h
    constructor
    · rintro ⟨k1, k2, k3, k4⟩; exact ⟨k1, fun k => k4 k.2⟩
    · rintro ⟨k1, k2⟩; exact ⟨k1, (hv.1 k1).1, (hv.1 k1).2, fun k => k2 ⟨k1, k⟩⟩
theorem cat_in (a b : Nm) (u : Int) : inN ⟨a.ints ++ b.ints, a.fracs ++ b.fracs⟩ u ↔ inN a u ∨ inN b u := by
  unfold inN
  by_cases h : u % 10000 = 0
  · simp only [if_pos h, mem_append, and_or_left]
  · simp only [if_neg h, mem_append, and_or_left]
theorem orR_can (a b : Nm) : CanN (orR a b) := makeR_can _
theorem orR_in (a b : Nm) (u : Int) : inN (orR a b) u ↔ inN a u ∨ inN b u := by
  unfold orR; rw [makeR_in, cat_in]
theorem inN_vld {a : Nm} {u : Int} (h : inN a u) : vld u := h.1
theorem andR_can (a b : Nm) : CanN (andR a b) := notR_can _
theorem andR_in (a b : Nm) (u : Int) : inN (andR a b) u ↔ inN a u ∧ inN b u := by
  unfold andR
  rw [notR_in, orR_in, notR_in, notR_in]
  constructor
  · rintro ⟨h1, h2⟩
    refine ⟨Classical.byContradiction fun h => h2 (.inl ⟨h1, h⟩), Classical.byContradiction fun h => h2 (.inr ⟨h1, h⟩)⟩
  · rintro ⟨h1, h2⟩
    refine ⟨inN_vld h1, ?_⟩
    rintro (h3 | h3)
    · exact h3.2 h1
    · exact h3.2 h2
theorem minusR_can (a b : Nm) : CanN (minusR a b) := notR_can _
theorem minusR_in (a b : Nm) (u : Int) : inN (minusR a b) u ↔ inN a u ∧ ¬ inN b u := by
  unfold minusR
  rw [andR_in, notR_in]
  constructor
  · rintro ⟨h1, h2, h3⟩; exact ⟨h1, h3⟩
  · rintro ⟨h1, h3⟩; exact ⟨h1, inN_vld h1, h3⟩
/-! the program's -/
theorem andP_can (a b : Nm) : CanN (andP a b) := makeR_can _
theorem common_in (a b : Nm) (u : Int) : inN ⟨commonL a.ints b.ints, commonL a.fracs b.fracs⟩ u ↔ inN a u ∧ inN b u := by
  unfold inN
  by_cases h : u % 10000 = 0
  · simp only [if_pos h, commonL_mem]
    exact ⟨fun k => ⟨⟨k.1, k.2.1⟩, ⟨k.1, k.2.2⟩⟩, fun k => ⟨k.1.1, k.1.2, k.2.2⟩⟩
  · simp only [if_neg h, commonL_mem]
    exact ⟨fun k => ⟨⟨k.1, k.2.1⟩, ⟨k.1, k.2.2⟩⟩, fun k => ⟨k.1.1, k.1.2, k.2.2⟩⟩
theorem andP_eq (a b : Nm) : andP a b = andR a b := (andP_can a b).ext (andR_can a b) fun u => by
  unfold andP
  rw [makeR_in, common_in, makeR_in, makeR_in, andR_in]
theorem notP_eq (a : Nm) : notP a = notR a := by
  have h := pgaps_after (fracsR a.fracs) (-999900000000000) 999899999999999
  rw [show unrankI (-999900000000000) = -999999999999999 by decide, show unrankI 999899999999999 = 999999999999999 by decide] at h
  unfold notP
  rw [pgaps_whole, show (makeR a).fracs = (fracsR a.fracs).map unrankS from rfl, h]
  exact makeR_of_can (notR_can a)
theorem minusP_eq (a b : Nm) : minusP a b = minusR a b := by unfold minusP minusR; rw [andP_eq, notP_eq]
theorem not_in_nil (u : Int) : ¬ inN ⟨[], []⟩ u := by
  unfold inN
  rintro ⟨_, h⟩
  split at h
  · exact (mem_nil _).1 h
  · exact (mem_nil _).1 h
theorem nil_can : CanN ⟨[], []⟩ := ⟨Can.nil, fun _ h => (nomatch h), ⟨[], Can.nil, fun _ h => (nomatch h), rfl⟩⟩
theorem emptyR_iff (a : Nm) : emptyR a = true ↔ ∀ u, ¬ inN a u := by
  unfold emptyR
  rw [decide_eq_true_eq]
  constructor
  · intro h u hu
    rw [← makeR_in, h] at hu
    exact not_in_nil u hu
  · intro h
    exact (makeR_can a).ext nil_can fun u => ⟨fun hu => absurd ((makeR_in a u).1 hu) (h u), fun hu => absurd hu (not_in_nil u)⟩
theorem subsetR_iff (a b : Nm) : subsetR a b = true ↔ ∀ u, inN a u → inN b u := by
  unfold subsetR
  rw [emptyR_iff]
  constructor
  · intro h u hu
    exact Classical.byContradiction fun hn => h u ((minusR_in a b u).2 ⟨hu, hn⟩)
  · intro h u hu
    have := (minusR_in a b u).1 hu
    exact this.2 (h u this.1)
theorem subsetP_eq (a b : Nm) : sameN (makeR (minusP a b)) ⟨[], []⟩ = subsetR a b := by
  rw [minusP_eq]; rfl
theorem insideB_iff (l : List (Int × Int)) (n : Int) : insideB l n = true ↔ mem l n := by
  unfold insideB inB mem
  simp
theorem hasL_iff (d : Nm) (u : Int) : hasL d u = true ↔ inN d u := by
  unfold hasL inN
  rw [Bool.and_eq_true, valid_iff]
  apply and_congr Iff.rfl
  by_cases h : u % 10000 = 0
  · rw [if_pos h, if_pos h, insideB_iff]
  · rw [if_neg h, if_neg h, insideB_iff]
theorem hasP_iff (d : Nm) (u : Int) : hasP d u = true ↔ inN d u := by unfold hasP; rw [hasL_iff, makeR_in]
theorem hasP_eq (d : Nm) (u : Int) : hasP d u = hasL d u := by
  rw [Bool.eq_iff_iff, hasP_iff, hasL_iff]
theorem allN_can : CanN allN :=
  ⟨Can.nil.cons (by decide) (fun _ h => nomatch h), fun s hs => by simp [allN] at hs; subst hs; exact ⟨by decide, by decide⟩,
   ⟨[(-999900000000000, 999899999999999)], Can.nil.cons (by decide) (fun _ h => nomatch h), fun s hs => by simp at hs; subst hs; exact ⟨by decide, by decide⟩, by decide⟩⟩
theorem allN_in (u : Int) : inN allN u ↔ vld u := by
  unfold inN allN vld
  by_cases h : u % 10000 = 0
  · simp only [if_pos h, mem_cons, mem_nil, or_false]
    constructor
    · exact fun h => h.1
    · intro h; exact ⟨h, by omega, by omega⟩
  · simp only [if_neg h, mem_cons, mem_nil, or_false]
    constructor
    · exact fun h => h.1
    · intro h; exact ⟨h, by omega, by omega⟩
theorem sameN_tt (a b : Nm) : sameN a b = true ↔ a = b := by unfold sameN; rw [decide_eq_true_eq]
theorem validNR_iff (a : Nm) : validNR a = true ↔ CanN a := by
  unfold validNR
  rw [sameN_tt]
  exact ⟨fun h => by rw [h]; exact makeR_can a, fun h => (makeR_of_can h).symm⟩
/-! bounds -/
theorem makeR_bddI (d : Nm) : Bdd (makeR d).ints := fun s hs => by
  have h1 := (makeR_can d).ri s hs
  have h2 := (makeR_can d).ci.1 s hs
  omega
theorem makeR_bddF (d : Nm) : Bdd (makeR d).fracs := fun s hs => by
  obtain ⟨c, h1, h2, h3⟩ := (makeR_can d).cf
  rw [h3] at hs
  obtain ⟨x, hx, rfl⟩ := List.mem_map.1 hs
  have h4 := h2 x hx
  have h5 := h1.1 x hx
  unfold unrankS unrankI
  simp only
  omega
theorem pgaps_inr (d : Nm) : InR (pgaps afterI beforeI (makeR d).fracs (-999999999999999) 999999999999999) := by
  have h := pgaps_after (fracsR d.fracs) (-999900000000000) 999899999999999
  rw [show unrankI (-999900000000000) = -999999999999999 by decide, show unrankI 999899999999999 = 999999999999999 by decide] at h
  rw [show (makeR d).fracs = (fracsR d.fracs).map unrankS from rfl, h]
  intro s hs
  have h2 := gapsR_spec (fracsR d.fracs) (-999900000000000) 999899999999999 (fracsR_spec _).1 (fracsR_spec _).2.1
  obtain ⟨x, hx, rfl⟩ := List.mem_map.1 hs
  have h3 := h2.2.1 x hx
  have h4 := h2.1.1 x hx
  unfold unrankS unrankI
  simp only
  omega
end Go.Proofs.Ytaianhhmmacblaa
