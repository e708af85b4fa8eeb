import Derived.Orders
import Derived.WalkKit
/-
  Regions that draw their order, walked once in the order of the text: each operation is given a specification of its value
  that abides the relation E between worlds; an operation may use the specifications of the operations that it waits for.
-/
namespace Go.Proofs.Ytaianhhmmacblaa
open Go

abbrev Spec := Value → World → Prop

def OpOk (P : Program) (ops : Array Oper) (E : World → World → Prop) (w1 : World) (Q : Exit → Act → World → Prop) (o : Oper) (env : Tmp → Spec) (R : Spec) : Prop :=
  ∀ a w, E w1 w → (∀ t ∈ o.looksAt ops, env t (a.tmps.getD t undef) w) →
    if Region.wanted o (yielded ops a.tmps) then o.wp P a w (fun a' w' => ∃ v, a' = a.put o.dst v ∧ E w w' ∧ R v w') Q else R undef w

def upd (env : Tmp → Spec) (dst : Option Tmp) (R : Spec) : Tmp → Spec := fun t => if dst = some t then R else env t

def fin (K : Act → World → Prop) : List (Option Tmp × Spec) → Act → World → Prop
  | [], a, w => K a w
  | (d, R) :: r, a, w => ∀ v, R v w → fin K r (a.put d v) w

def relSeq (P : Program) (ops : Array Oper) (E : World → World → Prop) (a0 : Act) (w1 : World) (Q : Exit → Act → World → Prop) (K : Act → World → Prop) :
    List Oper → List (Option Tmp × Spec) → (Tmp → Spec) → Prop
  | [], acc, _ => ∀ w, E w1 w → fin K acc a0 w
  | o :: rest, acc, env => ∃ R : Spec, (∀ v w w', R v w → E w w' → R v w') ∧ OpOk P ops E w1 Q o env R ∧
      relSeq P ops E a0 w1 Q K rest (acc ++ [(o.dst, R)]) (upd env o.dst R)

def relB (ops : Array Oper) (n : Nat) : Bool :=
  ops.toList.zipIdx.all fun x =>
    (x.1.looksAt ops).all (fun t => ops.toList.zipIdx.all fun y => y.1.dst != some t || (decide (y.2 < x.2) && x.1.after.any (fun e => e.on == y.2 && Region.binds .any e))) &&
    ops.toList.zipIdx.all (fun y => y.2 == x.2 || y.1.dst == none || y.1.dst != x.1.dst) &&
    (match x.1.dst with | some d => decide (d < n) | none => true) &&
    x.1.after.all (fun e => !Region.binds .any e || decide (e.on < x.2))

def reach (ops : Array Oper) : Nat → Nat → Nat → Bool
  | 0, _, _ => false
  | f + 1, k, j => match ops[k]? with
    | none => false
    | some o => o.after.any fun e => Region.binds .any e && (e.on == j || reach ops f e.on j)
/-- every operation from m on waits for all that stand before it -/
def tailB (ops : Array Oper) (m : Nat) (L : Array Bool) : Bool :=
  L.size == ops.size && (List.range ops.size).all fun k => if k < m then !L.getD k false else L.getD k false || (List.range k).all fun j => L.getD j false || reach ops 8 k j
/-- the operations from k on that have not been taken ahead -/
def tailFrom (ops : Array Oper) (L : Array Bool) : Nat → Nat → List Oper
  | 0, _ => []
  | d + 1, k => if L.getD k false then tailFrom ops L d (k + 1) else ops.getD k default :: tailFrom ops L d (k + 1)

structure RelB (ops : Array Oper) (n : Nat) : Prop where
  dep : ∀ (k : Nat) (o : Oper), ops[k]? = some o → ∀ t ∈ o.looksAt ops, ∀ (j : Nat) (o' : Oper), ops[j]? = some o' → o'.dst = some t → j < k ∧ ∃ e ∈ o.after, e.on = j ∧ Region.binds .any e = true
  dist : ∀ (k : Nat) (o : Oper), ops[k]? = some o → ∀ (j : Nat) (o' : Oper), ops[j]? = some o' → o.dst ≠ none → o'.dst = o.dst → j = k
  bound : ∀ (k : Nat) (o : Oper), ops[k]? = some o → ∀ d : Nat, o.dst = some d → d < n
  down : ∀ (k : Nat) (o : Oper), ops[k]? = some o → ∀ e ∈ o.after, Region.binds .any e = true → e.on < k

theorem relB_spec {ops : Array Oper} {n : Nat} (h : relB ops n = true) : RelB ops n := by
  unfold relB at h
  rw [List.all_eq_true] at h
  have mem : ∀ k o, ops[k]? = some o → (o, k) ∈ ops.toList.zipIdx := fun k o hk => by
    rw [List.mem_zipIdx_iff_getElem?]; simpa using hk
  refine ⟨fun k o hk t ht j o' hj hd => ?_, fun k o hk j o' hj hn he => ?_, fun k o hk d hd => ?_, fun k o hk e he hb => ?_⟩
  · have := h _ (mem k o hk)
    simp only [Bool.and_eq_true, List.all_eq_true] at this
    have h2 := this.1.1.1 t ht _ (mem j o' hj)
    rw [hd] at h2
    simp only [bne_self_eq_false, Bool.false_or, Bool.and_eq_true, decide_eq_true_eq, Array.any_eq_true', beq_iff_eq] at h2
    exact ⟨h2.1, h2.2⟩
  · have := h _ (mem k o hk)
    simp only [Bool.and_eq_true, List.all_eq_true] at this
    have h2 := this.1.1.2 _ (mem j o' hj)
    simp at h2
    rcases h2 with (h2 | h2) | h2
    · exact h2
    · rw [← he] at hn; exact absurd h2 hn
    · exact absurd he h2
  · have := h _ (mem k o hk)
    simp only [Bool.and_eq_true, List.all_eq_true] at this
    have h2 := this.1.2
    simp [hd] at h2
    exact h2
  · have := h _ (mem k o hk)
    simp only [Bool.and_eq_true, List.all_eq_true] at this
    have h2 := this.2
    rw [Array.all_eq_true_iff_forall_mem] at h2
    have := h2 e he
    simpa [hb] using this

section
variable {P : Program} {ops : Array Oper} {E : World → World → Prop} {a0 : Act} {w1 : World} {Q : Exit → Act → World → Prop}

/-- the specification of a slot ahead of operation k, by the specifications of the operations -/
def envAt (ops : Array Oper) (env : Tmp → Spec) (Rs : Nat → Spec) : Nat → Tmp → Spec
  | 0 => env
  | k + 1 => upd (envAt ops env Rs k) ((ops[k]?).bind (·.dst)) (Rs k)

structure Specs (P : Program) (ops : Array Oper) (E : World → World → Prop) (w1 : World) (Q : Exit → Act → World → Prop) (m : Nat) (env : Tmp → Spec) (Rs : Nat → Spec) : Prop where
  stable : ∀ k, k < m → ∀ v w w', Rs k v w → E w w' → Rs k v w'
  ok : ∀ (k : Nat) (o : Oper), k < m → ops[k]? = some o → OpOk P ops E w1 Q o (envAt ops env Rs k) (Rs k)

theorem specs_of {K : Act → World → Prop} (m : Nat) (hm : m ≤ ops.size) (env0 : Tmp → Spec) : ∀ (l : List Oper) (k : Nat) (acc : List (Option Tmp × Spec)) (Rs0 : Nat → Spec),
    (∀ j, j < l.length → l[j]? = ops[k + j]?) → l.length + k = m → acc.length = k →
    (∀ j, j < k → acc[j]? = some ((ops[j]?).bind (·.dst), Rs0 j)) →
    (∀ j, j < k → ∀ v w w', Rs0 j v w → E w w' → Rs0 j v w') →
    (∀ (j : Nat) (o : Oper), j < k → ops[j]? = some o → OpOk P ops E w1 Q o (envAt ops env0 Rs0 j) (Rs0 j)) →
    relSeq P ops E a0 w1 Q K l acc (envAt ops env0 Rs0 k) →
    ∃ Rs, Specs P ops E w1 Q m env0 Rs ∧ ∀ w, E w1 w → fin K ((List.range m).map fun j => ((ops[j]?).bind (·.dst), Rs j)) a0 w
  | [], k, acc, Rs0, hl, hlen, ha, hacc, hs, hok, h => by
    have hks : k = m := by simpa using hlen
    refine ⟨Rs0, ⟨fun j hj => hs j (by omega), fun j o hj => hok j o (by omega)⟩, ?_⟩
    have : acc = (List.range m).map fun j => ((ops[j]?).bind (·.dst), Rs0 j) := by
      apply List.ext_getElem?
      intro j
      by_cases hj : j < k
      · rw [hacc j hj]; simp [List.getElem?_map, List.getElem?_range (by omega : j < m)]
      · rw [List.getElem?_eq_none (by omega), List.getElem?_eq_none (by simp; omega)]
    rw [← this]
    exact h
  | o :: l, k, acc, Rs0, hl, hlen, ha, hacc, hs, hok, h => by
    obtain ⟨R, hR, hO, hrest⟩ := h
    have ho : ops[k]? = some o := by have := hl 0 (by simp); simpa using this.symm
    have hlt : k < ops.size := (Array.getElem?_eq_some_iff.1 ho).1
    let Rs : Nat → Spec := fun j => if j = k then R else Rs0 j
    have eAt : ∀ j, j ≤ k → envAt ops env0 Rs j = envAt ops env0 Rs0 j := by
      intro j
      induction j with
      | zero => intro _; rfl
      | succ j ih =>
        intro hj
        simp only [envAt]
        rw [ih (by omega)]
        have : Rs j = Rs0 j := by simp [Rs]; intro h; omega
        rw [this]
    have hRk : Rs k = R := by simp [Rs]
    have hRj : ∀ j, j < k → Rs j = Rs0 j := fun j hj => by simp [Rs]; intro h; omega
    refine specs_of m hm env0 l (k + 1) (acc ++ [(o.dst, R)]) Rs (fun j hj => by have := hl (j + 1) (by simpa using hj); simpa [Nat.add_assoc, Nat.add_comm 1 j] using this) (by simp at hlen; omega) (by simp [ha]) ?_ ?_ ?_ ?_
    · intro j hj
      by_cases hjk : j = k
      · subst hjk
        rw [hRk, List.getElem?_append_right (by omega)]
        simp [ha, ho]
      · rw [hRj j (by omega), List.getElem?_append_left (by omega)]
        exact hacc j (by omega)
    · intro j hj
      by_cases hjk : j = k
      · subst hjk; rw [hRk]; exact hR
      · rw [hRj j (by omega)]; exact hs j (by omega)
    · intro j o' hj hj'
      by_cases hjk : j = k
      · subst hjk
        rw [ho] at hj'
        cases hj'
        rw [hRk, eAt _ (Nat.le_refl _)]
        exact hO
      · rw [hRj j (by omega), eAt j (by omega)]
        exact hok j o' (by omega) hj'
    · simp only [envAt]
      rw [eAt k (Nat.le_refl _), hRk, ho]
      exact hrest

/-- what holds when the operations of 'listed' have been carried out; those of L were taken ahead, none other from m on -/
structure RInv (ops : Array Oper) (E : World → World → Prop) (a0 : Act) (w1 : World) (m : Nat) (L : Array Bool) (Rs : Nat → Spec) (listed : Array Bool) (a : Act) (w : World) : Prop where
  size : listed.size = ops.size
  tail : ∀ j, m ≤ j → listed.getD j false = L.getD j false
  closed : ∀ (j : Nat) (o : Oper), ops[j]? = some o → listed.getD j false = true → ∀ e ∈ o.after, Region.binds .any e = true → listed.getD e.on false = true
  ext : E w1 w
  defers : a.defers = a0.defers
  tmps : a.tmps.size = a0.tmps.size
  same : ∀ t : Nat, (∀ (j : Nat) (o : Oper), j < m → ops[j]? = some o → listed.getD j false = true → o.dst ≠ some t) → a.tmps[t]? = a0.tmps[t]?
  spec : ∀ (j : Nat) (o : Oper) d, j < m → ops[j]? = some o → listed.getD j false = true → o.dst = some d → Rs j (a.tmps.getD d undef) w
  spec0 : ∀ (j : Nat) (o : Oper), j < m → ops[j]? = some o → listed.getD j false = true → o.dst = none → ∃ v, Rs j v w

theorem envAt_of_writer {env : Tmp → Spec} {Rs : Nat → Spec} {n : Nat} (hB : RelB ops n) {t : Tmp} {j : Nat} {o : Oper} (hj : ops[j]? = some o) (hd : o.dst = some t) :
    ∀ k, j < k → envAt ops env Rs k t = Rs j
  | 0, h => by omega
  | k + 1, h => by
    rw [envAt, upd]
    by_cases hjk : j = k
    · subst hjk; simp [hj, hd]
    · rw [if_neg, envAt_of_writer hB hj hd k (by omega)]
      intro he
      cases hk : ops[k]? with
      | none => simp [hk] at he
      | some o' =>
        simp [hk] at he
        have := hB.dist j o hj k o' hk (by simp [hd]) (by rw [he, hd])
        omega

theorem envAt_of_none {env : Tmp → Spec} {Rs : Nat → Spec} {t : Tmp} (h : ∀ (j : Nat) (o : Oper), ops[j]? = some o → o.dst ≠ some t) : ∀ k, envAt ops env Rs k t = env t
  | 0 => rfl
  | k + 1 => by
    simp only [envAt, upd]
    rw [if_neg, envAt_of_none h k]
    intro he
    cases hk : ops[k]? with
    | none => simp [hk] at he
    | some o' => simp [hk] at he; exact h k o' hk he

theorem count_set (l : Array Bool) (i : Nat) (h : l.getD i true = false) : (l.setIfInBounds i true).toList.count false + 1 = l.toList.count false := by
  have hi : i < l.size := by
    rcases Nat.lt_or_ge i l.size with h' | h'
    · exact h'
    · simp [Array.getD, Nat.not_lt.2 h'] at h
  have hv : l[i] = false := by simpa [hi] using h
  rw [Array.toList_setIfInBounds, List.count_set (by simpa using hi)]
  have hm : 0 < l.toList.count false := List.count_pos_iff.2 (by rw [← hv]; simp)
  have h1 : (l.toList[i] == false) = true := by simp [hv]
  have h2 : (true == false) = false := rfl
  rw [h1, h2]
  simp only [if_true, Bool.false_eq_true, if_false]
  omega

theorem fin_of {K : Act → World → Prop} {Rs : Nat → Spec} {n m : Nat} (hB : RelB ops n) (hn : n = a0.tmps.size) (hm : m ≤ ops.size) {a : Act} {w : World} (hd : a.defers = a0.defers) (hs : a.tmps.size = a0.tmps.size)
    (hsame : ∀ t : Nat, (∀ (j : Nat) (o : Oper), j < m → ops[j]? = some o → o.dst ≠ some t) → a.tmps[t]? = a0.tmps[t]?)
    (hspec : ∀ (j : Nat) (o : Oper) d, j < m → ops[j]? = some o → o.dst = some d → Rs j (a.tmps.getD d undef) w)
    (hnone : ∀ (j : Nat) (o : Oper), j < m → ops[j]? = some o → o.dst = none → ∃ v, Rs j v w)
    (h : fin K ((List.range m).map fun j => ((ops[j]?).bind (·.dst), Rs j)) a0 w) : K a w := by
  have key : ∀ q k (b : Act), q + k = m → b.defers = a0.defers → b.tmps.size = a0.tmps.size →
      (∀ t : Nat, (∀ (j : Nat) (o : Oper), k ≤ j → j < m → ops[j]? = some o → o.dst ≠ some t) → b.tmps[t]? = a.tmps[t]?) →
      fin K ((List.range' k q).map fun j => ((ops[j]?).bind (·.dst), Rs j)) b w → K a w := by
    intro q
    induction q with
    | zero =>
      intro k b hk hbd hbs hb hf
      simp [fin] at hf
      have : b = a := by
        obtain ⟨bt, bd⟩ := b
        obtain ⟨at_, ad⟩ := a
        have h1 : bt = at_ := by
          apply Array.ext_getElem?
          intro t
          exact hb t fun j o hkj hj => by omega
        have h2 : bd = ad := by simp at hbd hd; rw [hbd, hd]
        rw [h1, h2]
      rwa [this] at hf
    | succ q ih =>
      intro k b hk hbd hbs hb hf
      rw [List.range'_succ, List.map_cons] at hf
      have hlt : k < ops.size := by omega
      have ho : ops[k]? = some ops[k] := Array.getElem?_eq_getElem hlt
      rw [ho] at hf
      simp only [Option.bind_some, fin] at hf
      cases hdst : ops[k].dst with
      | none =>
        rw [hdst] at hf
        obtain ⟨v, hv⟩ := hnone k _ (by omega) ho hdst
        refine ih (k + 1) b (by omega) hbd hbs (fun t ht => hb t fun j o hkj hjm hj => ?_) (hf v hv)
        by_cases hjk : j = k
        · subst hjk; rw [ho] at hj; cases hj; rw [hdst]; simp
        · exact ht j o (by omega) hjm hj
      | some d =>
        rw [hdst] at hf
        have hdn : (d : Nat) < a0.tmps.size := by
          have h1 := hB.bound k _ ho d hdst
          rw [hn] at h1
          exact h1
        have hf' := hf _ (hspec k _ d (by omega) ho hdst)
        refine ih (k + 1) (b.put (some d) (a.tmps.getD d undef)) (by omega) hbd (by simp [Act.put, hbs]) (fun t ht => ?_) hf'
        by_cases hdt : d = t
        · subst hdt
          have h1 : d < b.tmps.size := by rw [hbs]; exact hdn
          have h2 : d < a.tmps.size := by rw [hs]; exact hdn
          simp [Act.put, h1, h2]
        · simp only [Act.put]
          rw [Array.getElem?_setIfInBounds_ne hdt]
          exact hb t fun j o hkj hjm hj => by
            by_cases hjk : j = k
            · subst hjk; rw [ho] at hj; cases hj; rw [hdst]; intro he; injection he with he; exact hdt he
            · exact ht j o (by omega) hjm hj
  refine key m 0 a0 (by omega) rfl rfl (fun t ht => (hsame t fun j o hjm hj => ht j o (Nat.zero_le _) hjm hj).symm) ?_
  rw [List.range_eq_range'] at h
  exact h

theorem reach_listed {listed : Array Bool} (hcl : ∀ (j : Nat) (o : Oper), ops[j]? = some o → listed.getD j false = true → ∀ e ∈ o.after, Region.binds .any e = true → listed.getD e.on false = true) :
    ∀ (f k j : Nat), (∀ o, ops[k]? = some o → ∀ e ∈ o.after, Region.binds .any e = true → listed.getD e.on false = true) → reach ops f k j = true → listed.getD j false = true
  | 0, _, _, _, h => by simp [reach] at h
  | f + 1, k, j, hk, h => by
    rw [reach] at h
    cases ho : ops[k]? with
    | none => rw [ho] at h; simp at h
    | some o =>
      rw [ho] at h
      simp only [Array.any_eq_true', Bool.and_eq_true, Bool.or_eq_true, beq_iff_eq] at h
      obtain ⟨e, he, hb, h⟩ := h
      have h1 := hk o ho e he hb
      rcases h with rfl | h
      · exact h1
      · exact reach_listed hcl f e.on j (fun o' ho' => hcl e.on o' ho' h1) h

structure TailB (ops : Array Oper) (m : Nat) (L : Array Bool) : Prop where
  size : L.size = ops.size
  pre : ∀ k, k < m → k < ops.size → L.getD k false = false
  reach : ∀ k, m ≤ k → k < ops.size → L.getD k false = false → ∀ j, j < k → L.getD j false = true ∨ reach ops 8 k j = true

theorem tailB_spec {m : Nat} {L : Array Bool} (h : tailB ops m L = true) : TailB ops m L := by
  unfold tailB at h
  rw [Bool.and_eq_true, List.all_eq_true] at h
  refine ⟨by simpa using h.1, fun k hk hks => ?_, fun k hmk hk hL j hj => ?_⟩
  · have := h.2 k (by simpa using hks)
    rw [if_pos hk] at this
    simpa using this
  · have := h.2 k (by simpa using hk)
    rw [if_neg (by omega), hL, Bool.false_or, List.all_eq_true] at this
    have := this j (by simpa using hj)
    simpa using this

theorem getD_tf {l : Array Bool} {j : Nat} (hj : j < l.size) : l.getD j true = l.getD j false := by simp [hj]
theorem lt_of_unlisted {l : Array Bool} {j : Nat} (h : l.getD j true = false) : j < l.size := by
  rcases Nat.lt_or_ge j l.size with h' | h'
  · exact h'
  · simp [Array.getD, Nat.not_lt.2 h'] at h

theorem wpAny_tail {n m : Nat} {L : Array Bool} (hB : RelB ops n) (ht : TailB ops m L) : ∀ (d k : Nat) (listed : Array Bool) (a : Act) (w : World),
    m ≤ k → k + d = ops.size → listed.size = ops.size → (∀ j, j < k → listed.getD j false = true) → (∀ j, k ≤ j → listed.getD j false = L.getD j false) →
    (∀ (j : Nat) (o : Oper), ops[j]? = some o → listed.getD j false = true → ∀ e ∈ o.after, Region.binds .any e = true → listed.getD e.on false = true) →
    wpList P ops Q (tailFrom ops L d k) a w → wpAny P .any ops Q (tailFrom ops L d k).length listed a w
  | 0, k, listed, a, w, hmk, hlen, hsz, hdone, hun, hcl, h => by
    refine ⟨List.eq_nil_iff_forall_not_mem.2 fun i hi => ?_, h⟩
    have h1 := (mem_ready.1 hi).1
    have h2 := lt_of_unlisted h1
    have := hdone i (by omega)
    rw [← getD_tf h2, h1] at this
    cases this
  | d + 1, k, listed, a, w, hmk, hlen, hsz, hdone, hun, hcl, h => by
    rw [tailFrom] at h ⊢
    by_cases hL : L.getD k false = true
    · rw [if_pos hL] at h ⊢
      exact wpAny_tail hB ht d (k + 1) listed a w (by omega) (by omega) hsz (fun j hj => by
        by_cases hjk : j = k
        · subst hjk; rw [hun j (Nat.le_refl _)]; exact hL
        · exact hdone j (by omega)) (fun j hj => hun j (by omega)) hcl h
    · rw [if_neg hL] at h ⊢
      have hks : k < listed.size := by omega
      have hko : k < ops.size := by omega
      have hLk : listed.getD k false = false := by rw [hun k (Nat.le_refl _)]; simpa using hL
      have ho : ops[k]? = some (ops.getD k default) := by simp [hko]
      generalize ops.getD k default = o at *
      have honly : ∀ i ∈ Region.ready .any ops listed, i = k := by
        intro i hi
        obtain ⟨h1, o', ho', hdeps⟩ := mem_ready.1 hi
        have hi' : i < ops.size := (Array.getElem?_eq_some_iff.1 ho').1
        have hls := lt_of_unlisted h1
        have hil : listed.getD i false = false := by rw [← getD_tf hls]; exact h1
        have hik : k ≤ i := by
          rcases Nat.lt_or_ge i k with h' | h'
          · have := hdone i h'; rw [hil] at this; cases this
          · exact h'
        rcases Nat.eq_or_lt_of_le hik with h' | h'
        · exact h'.symm
        · have hLi : L.getD i false = false := by rw [← hun i hik]; exact hil
          rcases ht.reach i (by omega) hi' hLi k h' with h2 | h2
          · exact absurd h2 hL
          · have := reach_listed hcl 8 i k (fun o'' ho'' => by rw [ho'] at ho''; cases ho''; exact hdeps) h2
            rw [hLk] at this
            cases this
      have hr : k ∈ Region.ready .any ops listed := mem_ready.2 ⟨by rw [getD_tf hks]; exact hLk, o, ho, fun e he hb => hdone _ (hB.down k o ho e he hb)⟩
      refine ⟨fun h0 => (by rw [h0] at hr; cases hr), fun i hi => ?_⟩
      rw [honly i hi]
      unfold wpOp
      simp only [ho]
      have next : ∀ a w, wpList P ops Q (tailFrom ops L d (k + 1)) a w → wpAny P .any ops Q (tailFrom ops L d (k + 1)).length (listed.setIfInBounds k true) a w := fun a w h' => by
        have hset : ∀ j, (listed.setIfInBounds k true).getD j false = true ↔ j = k ∨ listed.getD j false = true := by
          intro j
          by_cases hjk : j = k
          · subst hjk; simp [hks]
          · rw [getD_set_ne false (Ne.symm hjk)]; simp [hjk]
        exact wpAny_tail hB ht d (k + 1) _ a w (by omega) (by omega) (by simp [hsz])
          (fun j hj => by
            rw [hset]
            by_cases hjk : j = k
            · exact .inl hjk
            · exact .inr (hdone j (by omega)))
          (fun j hj => by rw [getD_set_ne false (by omega)]; exact hun j (by omega))
          (fun j o' hj hlj e he hb => by
            rw [hset]
            rcases (hset j).1 hlj with rfl | hlj'
            · rw [ho] at hj
              cases hj
              exact .inr (hdone _ (hB.down j o ho e he hb))
            · exact .inr (hcl j o' hj hlj' e he hb)) h'
      unfold wpList at h
      split
      · rename_i hw
        rw [if_pos hw] at h
        exact h.imp (Oper.wp_mono next) id
      · rename_i hw
        rw [if_neg hw] at h
        exact next _ _ h

theorem wpAny_rel {Rs : Nat → Spec} {n m : Nat} {L : Array Bool} (hB : RelB ops n) (hn : n = a0.tmps.size) (hm : m ≤ ops.size) (ht : TailB ops m L)
    (hrefl : ∀ a, E a a) (htrans : ∀ a b c, E a b → E b c → E a c)
    (hS : Specs P ops E w1 Q m (fun t v _ => v = a0.tmps.getD t undef) Rs)
    (hfin : ∀ w, E w1 w → fin (wpList P ops Q (tailFrom ops L (ops.size - m) m)) ((List.range m).map fun j => ((ops[j]?).bind (·.dst), Rs j)) a0 w) :
    ∀ (fuel : Nat) (listed : Array Bool) (a : Act) (w : World), listed.toList.count false = fuel → RInv ops E a0 w1 m L Rs listed a w → wpAny P .any ops Q fuel listed a w := by
  have lt_of : ∀ {j : Nat} {o : Oper}, ops[j]? = some o → j < ops.size := fun hj => (Array.getElem?_eq_some_iff.1 hj).1
  have count_tail : ∀ (d k : Nat) (listed : Array Bool), k + d = ops.size → listed.size = ops.size → (∀ j, j < k → listed.getD j false = true) → (∀ j, k ≤ j → listed.getD j false = L.getD j false) →
      listed.toList.count false = (tailFrom ops L d k).length := by
    intro d
    induction d with
    | zero =>
      intro k listed hk hsz hdone hun
      rw [tailFrom, List.length_nil, List.count_eq_zero]
      intro hmem
      obtain ⟨j, hj, hv⟩ := List.getElem_of_mem hmem
      have := hdone j (by simp at hj; omega)
      simp at hj
      simp [hj] at this
      rw [Array.getElem_toList] at hv
      rw [hv] at this
      cases this
    | succ d ih =>
      intro k listed hk hsz hdone hun
      rw [tailFrom]
      by_cases hL : L.getD k false = true
      · rw [if_pos hL]
        exact ih (k + 1) listed (by omega) hsz (fun j hj => by
          by_cases hjk : j = k
          · subst hjk; rw [hun j (Nat.le_refl _)]; exact hL
          · exact hdone j (by omega)) (fun j hj => hun j (by omega))
      · rw [if_neg hL, List.length_cons]
        have hks : k < listed.size := by omega
        have hun' : listed.getD k true = false := by rw [getD_tf hks, hun k (Nat.le_refl _)]; simpa using hL
        rw [← count_set listed k hun']
        congr 1
        exact ih (k + 1) (listed.setIfInBounds k true) (by omega) (by simp [hsz]) (fun j hj => by
          by_cases hjk : j = k
          · subst hjk; simp [hks]
          · rw [getD_set_ne false (Ne.symm hjk)]; exact hdone j (by omega)) (fun j hj => by rw [getD_set_ne false (by omega)]; exact hun j (by omega))
  have phase2 : ∀ (fuel : Nat) (listed : Array Bool) (a : Act) (w : World), listed.toList.count false = fuel → RInv ops E a0 w1 m L Rs listed a w →
      (∀ k, k < m → listed.getD k false = true) → wpAny P .any ops Q fuel listed a w := by
    intro fuel listed a w hc hI hall
    rw [count_tail (ops.size - m) m listed (by omega) hI.size hall hI.tail] at hc
    subst hc
    refine wpAny_tail hB ht (ops.size - m) m listed a w (Nat.le_refl _) (by omega) hI.size hall hI.tail hI.closed ?_
    exact fin_of hB hn hm hI.defers hI.tmps (fun t htt => hI.same t fun j o hjm hj _ => htt j o hjm hj)
      (fun j o d hjm hj hd => hI.spec j o d hjm hj (hall j hjm) hd) (fun j o hjm hj hd => hI.spec0 j o hjm hj (hall j hjm) hd) (hfin w hI.ext)
  intro fuel
  induction fuel with
  | zero =>
    intro listed a w hc hI
    refine phase2 0 listed a w hc hI fun k hk => ?_
    have hsz := hI.size
    have hks : k < listed.size := by omega
    cases hv : listed[k] with
    | true => simp [hks, hv]
    | false =>
      have := count_set listed k (by simp [hks, hv])
      omega
  | succ fuel ih =>
    intro listed a w hc hI
    by_cases hall : ∀ k, k < m → listed.getD k false = true
    · exact phase2 _ listed a w hc hI hall
    · have hex : ∃ k, k < m ∧ listed.getD k false = false ∧ ∀ j, j < k → listed.getD j false = true := by
        have : ∃ k, k < m ∧ listed.getD k false = false := by
          refine Classical.byContradiction fun hno => hall fun k hk => ?_
          cases hv : listed.getD k false with
          | true => rfl
          | false => exact absurd ⟨k, hk, hv⟩ hno
        obtain ⟨k, hk, hv⟩ := this
        induction k using Nat.strongRecOn with
        | _ k ihk =>
          by_cases hj : ∃ j, j < k ∧ listed.getD j false = false
          · obtain ⟨j, hjk, hjv⟩ := hj
            exact ihk j hjk (by omega) hjv
          · refine ⟨k, hk, hv, fun j hjk => ?_⟩
            cases hv' : listed.getD j false with
            | true => rfl
            | false => exact absurd ⟨j, hjk, hv'⟩ hj
      obtain ⟨k0, hk0, hv0, hb0⟩ := hex
      have hsz := hI.size
      have hr0 : k0 ∈ Region.ready .any ops listed := by
        have hlt : k0 < ops.size := by omega
        exact mem_ready.2 ⟨by rw [getD_tf (by omega)]; exact hv0, _, Array.getElem?_eq_getElem hlt, fun e he hb => hb0 _ (hB.down k0 _ (Array.getElem?_eq_getElem hlt) e he hb)⟩
      refine ⟨fun hr => (by rw [hr] at hr0; cases hr0), fun i hi => ?_⟩
      obtain ⟨hun, o, ho, hdeps⟩ := mem_ready.1 hi
      have hin : i < listed.size := lt_of_unlisted hun
      have hunf : listed.getD i false = false := by rw [← getD_tf hin]; exact hun
      have him : i < m := by
        rcases Nat.lt_or_ge i m with h' | h'
        · exact h'
        · have hLi : L.getD i false = false := by rw [← hI.tail i h']; exact hunf
          rcases ht.reach i h' (by omega) hLi k0 (by omega) with h2 | h2
          · rw [ht.pre k0 hk0 (by omega)] at h2
            cases h2
          · have := reach_listed hI.closed 8 i k0 (fun o' ho' => by rw [ho] at ho'; cases ho'; exact hdeps) h2
            rw [hv0] at this
            cases this
      have hlisted : ∀ j, listed.getD j false = true → j ≠ i := by
        intro j hj hji
        subst hji
        rw [hunf] at hj
        cases hj
      have henv : ∀ t ∈ o.looksAt ops, envAt ops (fun t v _ => v = a0.tmps.getD t undef) Rs i t (a.tmps.getD t undef) w := by
        intro t ht
        by_cases hw : ∃ (j : Nat) (o' : Oper), ops[j]? = some o' ∧ o'.dst = some t
        · obtain ⟨j, o', hj, hd⟩ := hw
          obtain ⟨hji, e, he, heon, hb⟩ := hB.dep i o ho t ht j o' hj hd
          rw [envAt_of_writer hB hj hd i hji]
          exact hI.spec j o' t (by omega) hj (heon ▸ hdeps e he hb) hd
        · have hno : ∀ (j : Nat) (o' : Oper), ops[j]? = some o' → o'.dst ≠ some t := fun j o' hj hd => hw ⟨j, o', hj, hd⟩
          rw [envAt_of_none hno]
          have := hI.same t fun j o' _ hj _ => hno j o' hj
          simp only [Array.getD_eq_getD_getElem?, this]
      have hop := hS.ok i o him ho a w hI.ext henv
      have step : ∀ v w', E w w' → Rs i v w' → RInv ops E a0 w1 m L Rs (listed.setIfInBounds i true) (a.put o.dst v) w' := by
        intro v w' hE hR
        have hset : ∀ j, (listed.setIfInBounds i true).getD j false = true ↔ j = i ∨ listed.getD j false = true := by
          intro j
          by_cases hji : j = i
          · subst hji; simp [hin]
          · rw [getD_set_ne false (Ne.symm hji)]; simp [hji]
        refine ⟨by simp [hI.size], ?_, ?_, htrans _ _ _ hI.ext hE, ?_, ?_, ?_, ?_, ?_⟩
        · intro j hj
          rw [getD_set_ne false (by omega)]
          exact hI.tail j hj
        · intro j o' hj hl e he hb
          rw [hset]
          rcases (hset j).1 hl with rfl | hl'
          · rw [ho] at hj
            cases hj
            exact .inr (hdeps e he hb)
          · exact .inr (hI.closed j o' hj hl' e he hb)
        · cases o.dst <;> exact hI.defers
        · have := hI.tmps
          cases o.dst <;> simp [Act.put, this]
        · intro t ht
          have hne : o.dst ≠ some t := ht i o him ho ((hset i).2 (.inl rfl))
          have h1 : (a.put o.dst v).tmps[t]? = a.tmps[t]? := by
            cases hd : o.dst with
            | none => rfl
            | some d =>
              have : d ≠ t := fun h => hne (by rw [hd, h])
              simp [Act.put, Array.getElem?_setIfInBounds_ne this]
          rw [h1]
          exact hI.same t fun j o' hjm hj hl => ht j o' hjm hj ((hset j).2 (.inr hl))
        · intro j o' d hjm hj hl hd
          rcases (hset j).1 hl with rfl | hl'
          · rw [ho] at hj
            cases hj
            have hdn : d < a.tmps.size := by rw [hI.tmps, ← hn]; exact hB.bound j o ho d hd
            rw [hd]
            simp [Act.put, hdn]
            exact hR
          · have hji : j ≠ i := hlisted j hl'
            have h1 := hI.spec j o' d hjm hj hl' hd
            have h2 : (a.put o.dst v).tmps.getD d undef = a.tmps.getD d undef := by
              cases hdo : o.dst with
              | none => rfl
              | some d' =>
                have : d' ≠ d := fun h => hji (hB.dist i o ho j o' hj (by simp [hdo]) (by rw [hd, hdo, h]))
                simp [Act.put, Array.getElem?_setIfInBounds_ne this]
            rw [h2]
            exact hS.stable j hjm _ _ _ h1 hE
        · intro j o' hjm hj hl hd
          rcases (hset j).1 hl with rfl | hl'
          · rw [ho] at hj
            cases hj
            exact ⟨v, hR⟩
          · obtain ⟨u, hu⟩ := hI.spec0 j o' hjm hj hl' hd
            exact ⟨u, hS.stable j hjm _ _ _ hu hE⟩
      have hcount : (listed.setIfInBounds i true).toList.count false = fuel := by
        have := count_set listed i hun
        omega
      unfold wpOp
      simp only [ho]
      split
      · rename_i hw
        simp only [hw, if_true] at hop
        refine .inl (Oper.wp_mono (fun a' w' h => ?_) hop)
        obtain ⟨v, rfl, hE, hR⟩ := h
        exact ih _ _ _ hcount (step v w' hE hR)
      · rename_i hw
        simp only [hw] at hop
        exact ih _ _ _ hcount (step undef w (hrefl w) hop)

/-- **A region that draws its order, walked once in the order of the text**: the operations of pre in relations, those of the tail, which wait for all ahead of them, as they stand. -/
theorem wp_region_rel {id n m : Nat} {pre : List Oper} {w : World} (hmo : P.follows .mixedOrders = true) (hpre : pre = ops.toList.take m) (hms : m ≤ ops.size)
    (hn : n = a0.tmps.size) (hB : relB ops n = true) (ht : tailB ops m (Array.replicate ops.size false) = true)
    (hdr : E w { w with drawn := w.drawn + 1 }) (hrefl : ∀ a, E a a) (htrans : ∀ a b c, E a b → E b c → E a c)
    (h : relSeq P ops E a0 w Q (wpList P ops Q (tailFrom ops (Array.replicate ops.size false) (ops.size - m) m)) pre [] (fun t v _ => v = a0.tmps.getD t undef)) :
    (Code.region id ops true).wp P Q a0 w := by
  have hBs := relB_spec hB
  subst hpre
  obtain ⟨Rs, hS, hfin⟩ := specs_of (P := P) (ops := ops) (E := E) (a0 := a0) (Q := Q) m hms (fun t v _ => v = a0.tmps.getD t undef) (ops.toList.take m) 0 [] (fun _ _ _ => True)
    (fun j hj => by simp at hj; simp [List.getElem?_take]; omega) (by simp; omega) rfl (fun j hj => by omega) (fun j hj => by omega) (fun j o hj => by omega) h
  refine wp_region_any hmo (wpAny_rel hBs hn hms (tailB_spec ht) hrefl htrans hS hfin _ _ _ _ ?_ ?_)
  · simp
  · refine ⟨by simp, fun j _ => rfl, fun j o hj hl => ?_, hdr, rfl, rfl, fun t _ => rfl, fun j o d _ hj hl => ?_, fun j o _ hj hl => ?_⟩
    · by_cases hj : j < ops.size <;> simp [hj] at hl
    · by_cases hj : j < ops.size <;> simp [hj] at hl
    · by_cases hj : j < ops.size <;> simp [hj] at hl

/-- the same, one operation i that hangs on nothing taken ahead: it yields v in whatever world -/
theorem wp_region_rel1 {id n m i : Nat} {oi : Oper} {v : Value} {pre : List Oper} {w : World} (hmo : P.follows .mixedOrders = true) (hpre : pre = ops.toList.take m) (hms : m ≤ ops.size)
    (hn : n = a0.tmps.size) (hi : ops[i]? = some oi) (hmi : m ≤ i) (hno : oi.after.all (fun e => !Region.binds .any e) = true) (hB : relB ops n = true)
    (hs : Region.noSelect ops = true) (hf : Region.free .any ops (Array.replicate ops.size false) i = true)
    (hQ : ∀ c a w, Q (.panic c) (a.put oi.dst v) w → Q (.panic c) a w) (hy : Yields P ops oi v a0)
    (ht : tailB ops m ((Array.replicate ops.size false).setIfInBounds i true) = true)
    (hdr : E w { w with drawn := w.drawn + 1 }) (hrefl : ∀ a, E a a) (htrans : ∀ a b c, E a b → E b c → E a c)
    (h : relSeq P ops E (a0.put oi.dst v) w Q (wpList P ops Q (tailFrom ops ((Array.replicate ops.size false).setIfInBounds i true) (ops.size - m) m)) pre [] (fun t u _ => u = (a0.put oi.dst v).tmps.getD t undef)) :
    (Code.region id ops true).wp P Q a0 w := by
  have hBs := relB_spec hB
  have hil : i < ops.size := (Array.getElem?_eq_some_iff.1 hi).1
  subst hpre
  have hsize : (a0.put oi.dst v).tmps.size = a0.tmps.size := by cases oi.dst <;> simp [Act.put]
  obtain ⟨Rs, hS, hfin⟩ := specs_of (P := P) (ops := ops) (E := E) (a0 := a0.put oi.dst v) (Q := Q) m hms (fun t u _ => u = (a0.put oi.dst v).tmps.getD t undef) (ops.toList.take m) 0 [] (fun _ _ _ => True)
    (fun j hj => by simp at hj; simp [List.getElem?_take]; omega) (by simp; omega) rfl (fun j hj => by omega) (fun j hj => by omega) (fun j o hj => by omega) h
  have hnone : ∀ e ∈ oi.after, Region.binds .any e = false := fun e he => by
    rw [Array.all_eq_true_iff_forall_mem] at hno
    simpa using hno e he
  have hready : i ∈ Region.ready .any ops (Array.replicate ops.size false) := mem_ready.2 ⟨by simp [hil], oi, hi, fun e he hb => by rw [hnone e he] at hb; cases hb⟩
  refine wp_region_any hmo ?_
  have hsz : ops.size = (ops.size - 1) + 1 := by omega
  rw [show (wpAny P .any ops Q ops.size) = wpAny P .any ops Q ((ops.size - 1) + 1) by rw [← hsz]]
  refine wpAny_take hi hs hf (by simpa using hready) hQ hy (wpAny_rel hBs (by rw [hsize]; exact hn) hms (tailB_spec ht) hrefl htrans hS hfin _ _ _ _ ?_ ?_)
  · have := count_set (Array.replicate ops.size false) i (by simp [hil])
    have h2 : (Array.replicate ops.size false).toList.count false = ops.size := by simp
    omega
  · have hset : ∀ j, ((Array.replicate ops.size false).setIfInBounds i true).getD j false = true → j = i := by
      intro j hj
      by_cases hji : j = i
      · exact hji
      · rw [getD_set_ne false (Ne.symm hji)] at hj
        by_cases hjs : j < ops.size <;> simp [hjs] at hj
    refine ⟨by simp, fun j _ => rfl, fun j o hj hl e he hb => ?_, hdr, rfl, rfl, fun t _ => rfl, fun j o d hjm hj hl => ?_, fun j o hjm hj hl => ?_⟩
    · have := hset j hl
      subst this
      rw [hi] at hj
      cases hj
      rw [hnone e he] at hb
      cases hb
    · have := hset j hl; omega
    · have := hset j hl; omega

end
end Go.Proofs.Ytaianhhmmacblaa
