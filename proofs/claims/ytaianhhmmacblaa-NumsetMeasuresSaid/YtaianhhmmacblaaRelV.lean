import Derived.Test.YtaianhhmmacblaaRelOps
/-
  Regions that draw their order, with an invariant of the record and the world besides (two blocks that the region lays are two).
-/
namespace Go.Proofs.Ytaianhhmmacblaa
open Go

def OpOkV (V : Act → World → Prop) (P : Program) (ops : Array Oper) (E : World → World → Prop) (w1 : World) (Q : Exit → Act → World → Prop) (o : Oper) (env : Tmp → Spec) (R : Spec) : Prop :=
  ∀ a w, E w1 w → V a w → (∀ t ∈ o.looksAt ops, env t (a.tmps.getD t undef) w) →
    if Region.wanted o (yielded ops a.tmps) then o.wp P a w (fun a' w' => ∃ v, a' = a.put o.dst v ∧ E w w' ∧ R v w' ∧ V a' w') Q else R undef w ∧ V (a.put o.dst undef) w

def relSeqV (V : Act → World → Prop) (P : Program) (ops : Array Oper) (E : World → World → Prop) (a0 : Act) (w1 : World) (Q : Exit → Act → World → Prop) (K : Act → World → Prop) :
    List Oper → List (Option Tmp × Spec) → (Tmp → Spec) → Prop
  | [], acc, _ => ∀ w, E w1 w → fin (fun a w => V a w → K a w) acc a0 w
  | o :: rest, acc, env => ∃ R : Spec, (∀ v w w', R v w → E w w' → R v w') ∧ OpOkV V P ops E w1 Q o env R ∧
      relSeqV V P ops E a0 w1 Q K rest (acc ++ [(o.dst, R)]) (upd env o.dst R)

section
variable {P : Program} {ops : Array Oper} {E : World → World → Prop} {a0 : Act} {w1 : World} {Q : Exit → Act → World → Prop}
structure SpecsV (V : Act → World → Prop) (P : Program) (ops : Array Oper) (E : World → World → Prop) (w1 : World) (Q : Exit → Act → World → Prop) (m : Nat) (env : Tmp → Spec) (Rs : Nat → Spec) : Prop where
  stable : ∀ k, k < m → ∀ v w w', Rs k v w → E w w' → Rs k v w'
  ok : ∀ (k : Nat) (o : Oper), k < m → ops[k]? = some o → OpOkV V P ops E w1 Q o (envAt ops env Rs k) (Rs k)

theorem specs_ofV {V : Act → World → Prop} {K : Act → World → Prop} (m : Nat) (hm : m ≤ ops.size) (env0 : Tmp → Spec) : ∀ (l : List Oper) (k : Nat) (acc : List (Option Tmp × Spec)) (Rs0 : Nat → Spec),
    (∀ j, j < l.length → l[j]? = ops[k + j]?) → l.length + k = m → acc.length = k →
    (∀ j, j < k → acc[j]? = some ((ops[j]?).bind (·.dst), Rs0 j)) →
    (∀ j, j < k → ∀ v w w', Rs0 j v w → E w w' → Rs0 j v w') →
    (∀ (j : Nat) (o : Oper), j < k → ops[j]? = some o → OpOkV V P ops E w1 Q o (envAt ops env0 Rs0 j) (Rs0 j)) →
    relSeqV V P ops E a0 w1 Q K l acc (envAt ops env0 Rs0 k) →
    ∃ Rs, SpecsV V P ops E w1 Q m env0 Rs ∧ ∀ w, E w1 w → fin (fun a w => V a w → K a w) ((List.range m).map fun j => ((ops[j]?).bind (·.dst), Rs j)) a0 w
  | [], k, acc, Rs0, hl, hlen, ha, hacc, hs, hok, h => by
    have hks : k = m := by simpa using hlen
    refine ⟨Rs0, ⟨fun j hj => hs j (by omega), fun j o hj => hok j o (by omega)⟩, ?_⟩
    have : acc = (List.range m).map fun j => ((ops[j]?).bind (·.dst), Rs0 j) := by
      apply List.ext_getElem?
      intro j
      by_cases hj : j < k
      · rw [hacc j hj]; simp [List.getElem?_map, List.getElem?_range (by omega : j < m)]
      · rw [List.getElem?_eq_none (by omega), List.getElem?_eq_none (by simp; omega)]
    rw [← this]
    exact h
  | o :: l, k, acc, Rs0, hl, hlen, ha, hacc, hs, hok, h => by
    obtain ⟨R, hR, hO, hrest⟩ := h
    have ho : ops[k]? = some o := by have := hl 0 (by simp); simpa using this.symm
    have hlt : k < ops.size := (Array.getElem?_eq_some_iff.1 ho).1
    let Rs : Nat → Spec := fun j => if j = k then R else Rs0 j
    have eAt : ∀ j, j ≤ k → envAt ops env0 Rs j = envAt ops env0 Rs0 j := by
      intro j
      induction j with
      | zero => intro _; rfl
      | succ j ih =>
        intro hj
        simp only [envAt]
        rw [ih (by omega)]
        have : Rs j = Rs0 j := by simp [Rs]; intro h; omega
        rw [this]
    have hRk : Rs k = R := by simp [Rs]
    have hRj : ∀ j, j < k → Rs j = Rs0 j := fun j hj => by simp [Rs]; intro h; omega
    refine specs_ofV m hm env0 l (k + 1) (acc ++ [(o.dst, R)]) Rs (fun j hj => by have := hl (j + 1) (by simpa using hj); simpa [Nat.add_assoc, Nat.add_comm 1 j] using this) (by simp at hlen; omega) (by simp [ha]) ?_ ?_ ?_ ?_
    · intro j hj
      by_cases hjk : j = k
      · subst hjk
        rw [hRk, List.getElem?_append_right (by omega)]
        simp [ha, ho]
      · rw [hRj j (by omega), List.getElem?_append_left (by omega)]
        exact hacc j (by omega)
    · intro j hj
      by_cases hjk : j = k
      · subst hjk; rw [hRk]; exact hR
      · rw [hRj j (by omega)]; exact hs j (by omega)
    · intro j o' hj hj'
      by_cases hjk : j = k
      · subst hjk
        rw [ho] at hj'
        cases hj'
        rw [hRk, eAt _ (Nat.le_refl _)]
        exact hO
      · rw [hRj j (by omega), eAt j (by omega)]
        exact hok j o' (by omega) hj'
    · simp only [envAt]
      rw [eAt k (Nat.le_refl _), hRk, ho]
      exact hrest

/-- what holds when the operations of 'listed' have been carried out; those of L were taken ahead, none other from m on -/
structure RInvV (V : Act → World → Prop) (ops : Array Oper) (E : World → World → Prop) (a0 : Act) (w1 : World) (m : Nat) (L : Array Bool) (Rs : Nat → Spec) (listed : Array Bool) (a : Act) (w : World) : Prop where
  size : listed.size = ops.size
  tail : ∀ j, m ≤ j → listed.getD j false = L.getD j false
  closed : ∀ (j : Nat) (o : Oper), ops[j]? = some o → listed.getD j false = true → ∀ e ∈ o.after, Region.binds .any e = true → listed.getD e.on false = true
  ext : E w1 w
  inv : V a w
  defers : a.defers = a0.defers
  tmps : a.tmps.size = a0.tmps.size
  same : ∀ t : Nat, (∀ (j : Nat) (o : Oper), j < m → ops[j]? = some o → listed.getD j false = true → o.dst ≠ some t) → a.tmps[t]? = a0.tmps[t]?
  spec : ∀ (j : Nat) (o : Oper) d, j < m → ops[j]? = some o → listed.getD j false = true → o.dst = some d → Rs j (a.tmps.getD d undef) w
  spec0 : ∀ (j : Nat) (o : Oper), j < m → ops[j]? = some o → listed.getD j false = true → o.dst = none → ∃ v, Rs j v w

theorem wpAny_relV {V : Act → World → Prop} {Rs : Nat → Spec} {n m : Nat} {L : Array Bool} (hB : RelB ops n) (hn : n = a0.tmps.size) (hm : m ≤ ops.size) (ht : TailB ops m L)
    (hrefl : ∀ a, E a a) (htrans : ∀ a b c, E a b → E b c → E a c)
    (hS : SpecsV V P ops E w1 Q m (fun t v _ => v = a0.tmps.getD t undef) Rs)
    (hfin : ∀ w, E w1 w → fin (fun a w => V a w → wpList P ops Q (tailFrom ops L (ops.size - m) m) a w) ((List.range m).map fun j => ((ops[j]?).bind (·.dst), Rs j)) a0 w) :
    ∀ (fuel : Nat) (listed : Array Bool) (a : Act) (w : World), listed.toList.count false = fuel → RInvV V ops E a0 w1 m L Rs listed a w → wpAny P .any ops Q fuel listed a w := by
  have lt_of : ∀ {j : Nat} {o : Oper}, ops[j]? = some o → j < ops.size := fun hj => (Array.getElem?_eq_some_iff.1 hj).1
  have count_tail : ∀ (d k : Nat) (listed : Array Bool), k + d = ops.size → listed.size = ops.size → (∀ j, j < k → listed.getD j false = true) → (∀ j, k ≤ j → listed.getD j false = L.getD j false) →
      listed.toList.count false = (tailFrom ops L d k).length := by
    intro d
    induction d with
    | zero =>
      intro k listed hk hsz hdone hun
      rw [tailFrom, List.length_nil, List.count_eq_zero]
      intro hmem
      obtain ⟨j, hj, hv⟩ := List.getElem_of_mem hmem
      have := hdone j (by simp at hj; omega)
      simp at hj
      simp [hj] at this
      rw [Array.getElem_toList] at hv
      rw [hv] at this
      cases this
    | succ d ih =>
      intro k listed hk hsz hdone hun
      rw [tailFrom]
      by_cases hL : L.getD k false = true
      · rw [if_pos hL]
        exact ih (k + 1) listed (by omega) hsz (fun j hj => by
          by_cases hjk : j = k
          · subst hjk; rw [hun j (Nat.le_refl _)]; exact hL
          · exact hdone j (by omega)) (fun j hj => hun j (by omega))
      · rw [if_neg hL, List.length_cons]
        have hks : k < listed.size := by omega
        have hun' : listed.getD k true = false := by rw [getD_tf hks, hun k (Nat.le_refl _)]; simpa using hL
        rw [← count_set listed k hun']
        congr 1
        exact ih (k + 1) (listed.setIfInBounds k true) (by omega) (by simp [hsz]) (fun j hj => by
          by_cases hjk : j = k
          · subst hjk; simp [hks]
          · rw [getD_set_ne false (Ne.symm hjk)]; exact hdone j (by omega)) (fun j hj => by rw [getD_set_ne false (by omega)]; exact hun j (by omega))
  have phase2 : ∀ (fuel : Nat) (listed : Array Bool) (a : Act) (w : World), listed.toList.count false = fuel → RInvV V ops E a0 w1 m L Rs listed a w →
      (∀ k, k < m → listed.getD k false = true) → wpAny P .any ops Q fuel listed a w := by
    intro fuel listed a w hc hI hall
    rw [count_tail (ops.size - m) m listed (by omega) hI.size hall hI.tail] at hc
    subst hc
    refine wpAny_tail hB ht (ops.size - m) m listed a w (Nat.le_refl _) (by omega) hI.size hall hI.tail hI.closed ?_
    exact fin_of (K := fun a w => V a w → wpList P ops Q (tailFrom ops L (ops.size - m) m) a w) hB hn hm hI.defers hI.tmps (fun t htt => hI.same t fun j o hjm hj _ => htt j o hjm hj)
      (fun j o d hjm hj hd => hI.spec j o d hjm hj (hall j hjm) hd) (fun j o hjm hj hd => hI.spec0 j o hjm hj (hall j hjm) hd) (hfin w hI.ext) hI.inv
  intro fuel
  induction fuel with
  | zero =>
    intro listed a w hc hI
    refine phase2 0 listed a w hc hI fun k hk => ?_
    have hsz := hI.size
    have hks : k < listed.size := by omega
    cases hv : listed[k] with
    | true => simp [hks, hv]
    | false =>
      have := count_set listed k (by simp [hks, hv])
      omega
  | succ fuel ih =>
    intro listed a w hc hI
    by_cases hall : ∀ k, k < m → listed.getD k false = true
    · exact phase2 _ listed a w hc hI hall
    · have hex : ∃ k, k < m ∧ listed.getD k false = false ∧ ∀ j, j < k → listed.getD j false = true := by
        have : ∃ k, k < m ∧ listed.getD k false = false := by
          refine Classical.byContradiction fun hno => hall fun k hk => ?_
          cases hv : listed.getD k false with
          | true => rfl
          | false => exact absurd ⟨k, hk, hv⟩ hno
        obtain ⟨k, hk, hv⟩ := this
        induction k using Nat.strongRecOn with
        | _ k ihk =>
          by_cases hj : ∃ j, j < k ∧ listed.getD j false = false
          · obtain ⟨j, hjk, hjv⟩ := hj
            exact ihk j hjk (by omega) hjv
          · refine ⟨k, hk, hv, fun j hjk => ?_⟩
            cases hv' : listed.getD j false with
            | true => rfl
            | false => exact absurd ⟨j, hjk, hv'⟩ hj
      obtain ⟨k0, hk0, hv0, hb0⟩ := hex
      have hsz := hI.size
      have hr0 : k0 ∈ Region.ready .any ops listed := by
        have hlt : k0 < ops.size := by omega
        exact mem_ready.2 ⟨by rw [getD_tf (by omega)]; exact hv0, _, Array.getElem?_eq_getElem hlt, fun e he hb => hb0 _ (hB.down k0 _ (Array.getElem?_eq_getElem hlt) e he hb)⟩
      refine ⟨fun hr => (by rw [hr] at hr0; cases hr0), fun i hi => ?_⟩
      obtain ⟨hun, o, ho, hdeps⟩ := mem_ready.1 hi
      have hin : i < listed.size := lt_of_unlisted hun
      have hunf : listed.getD i false = false := by rw [← getD_tf hin]; exact hun
      have him : i < m := by
        rcases Nat.lt_or_ge i m with h' | h'
        · exact h'
        · have hLi : L.getD i false = false := by rw [← hI.tail i h']; exact hunf
          rcases ht.reach i h' (by omega) hLi k0 (by omega) with h2 | h2
          · rw [ht.pre k0 hk0 (by omega)] at h2
            cases h2
          · have := reach_listed hI.closed 8 i k0 (fun o' ho' => by rw [ho] at ho'; cases ho'; exact hdeps) h2
            rw [hv0] at this
            cases this
      have hlisted : ∀ j, listed.getD j false = true → j ≠ i := by
        intro j hj hji
        subst hji
        rw [hunf] at hj
        cases hj
      have henv : ∀ t ∈ o.looksAt ops, envAt ops (fun t v _ => v = a0.tmps.getD t undef) Rs i t (a.tmps.getD t undef) w := by
        intro t ht
        by_cases hw : ∃ (j : Nat) (o' : Oper), ops[j]? = some o' ∧ o'.dst = some t
        · obtain ⟨j, o', hj, hd⟩ := hw
          obtain ⟨hji, e, he, heon, hb⟩ := hB.dep i o ho t ht j o' hj hd
          rw [envAt_of_writer hB hj hd i hji]
          exact hI.spec j o' t (by omega) hj (heon ▸ hdeps e he hb) hd
        · have hno : ∀ (j : Nat) (o' : Oper), ops[j]? = some o' → o'.dst ≠ some t := fun j o' hj hd => hw ⟨j, o', hj, hd⟩
          rw [envAt_of_none hno]
          have := hI.same t fun j o' _ hj _ => hno j o' hj
          simp only [Array.getD_eq_getD_getElem?, this]
      have hop := hS.ok i o him ho a w hI.ext hI.inv henv
      have step : ∀ v w', E w w' → Rs i v w' → V (a.put o.dst v) w' → RInvV V ops E a0 w1 m L Rs (listed.setIfInBounds i true) (a.put o.dst v) w' := by
        intro v w' hE hR hV
        have hset : ∀ j, (listed.setIfInBounds i true).getD j false = true ↔ j = i ∨ listed.getD j false = true := by
          intro j
          by_cases hji : j = i
          · subst hji; simp [hin]
          · rw [getD_set_ne false (Ne.symm hji)]; simp [hji]
        refine ⟨by simp [hI.size], ?_, ?_, htrans _ _ _ hI.ext hE, hV, ?_, ?_, ?_, ?_, ?_⟩
        · intro j hj
          rw [getD_set_ne false (by omega)]
          exact hI.tail j hj
        · intro j o' hj hl e he hb
          rw [hset]
          rcases (hset j).1 hl with rfl | hl'
          · rw [ho] at hj
            cases hj
            exact .inr (hdeps e he hb)
          · exact .inr (hI.closed j o' hj hl' e he hb)
        · cases o.dst <;> exact hI.defers
        · have := hI.tmps
          cases o.dst <;> simp [Act.put, this]
        · intro t ht
          have hne : o.dst ≠ some t := ht i o him ho ((hset i).2 (.inl rfl))
          have h1 : (a.put o.dst v).tmps[t]? = a.tmps[t]? := by
            cases hd : o.dst with
            | none => rfl
            | some d =>
              have : d ≠ t := fun h => hne (by rw [hd, h])
              simp [Act.put, Array.getElem?_setIfInBounds_ne this]
          rw [h1]
          exact hI.same t fun j o' hjm hj hl => ht j o' hjm hj ((hset j).2 (.inr hl))
        · intro j o' d hjm hj hl hd
          rcases (hset j).1 hl with rfl | hl'
          · rw [ho] at hj
            cases hj
            have hdn : d < a.tmps.size := by rw [hI.tmps, ← hn]; exact hB.bound j o ho d hd
            rw [hd]
            simp [Act.put, hdn]
            exact hR
          · have hji : j ≠ i := hlisted j hl'
            have h1 := hI.spec j o' d hjm hj hl' hd
            have h2 : (a.put o.dst v).tmps.getD d undef = a.tmps.getD d undef := by
              cases hdo : o.dst with
              | none => rfl
              | some d' =>
                have : d' ≠ d := fun h => hji (hB.dist i o ho j o' hj (by simp [hdo]) (by rw [hd, hdo, h]))
                simp [Act.put, Array.getElem?_setIfInBounds_ne this]
            rw [h2]
            exact hS.stable j hjm _ _ _ h1 hE
        · intro j o' hjm hj hl hd
          rcases (hset j).1 hl with rfl | hl'
          · rw [ho] at hj
            cases hj
            exact ⟨v, hR⟩
          · obtain ⟨u, hu⟩ := hI.spec0 j o' hjm hj hl' hd
            exact ⟨u, hS.stable j hjm _ _ _ hu hE⟩
      have hcount : (listed.setIfInBounds i true).toList.count false = fuel := by
        have := count_set listed i hun
        omega
      unfold wpOp
      simp only [ho]
      split
      · rename_i hw
        simp only [hw, if_true] at hop
        refine .inl (Oper.wp_mono (fun a' w' h => ?_) hop)
        obtain ⟨v, rfl, hE, hR, hV⟩ := h
        exact ih _ _ _ hcount (step v w' hE hR hV)
      · rename_i hw
        simp only [hw] at hop
        exact ih _ _ _ hcount (step undef w (hrefl w) hop.1 hop.2)
/-- **A region that draws its order, walked once in the order of the text**: the operations of pre in relations, those of the tail, which wait for all ahead of them, as they stand. -/
theorem wp_region_relV {V : Act → World → Prop} {id n m : Nat} {pre : List Oper} {w : World} (hmo : P.follows .mixedOrders = true) (hpre : pre = ops.toList.take m) (hms : m ≤ ops.size)
    (hn : n = a0.tmps.size) (hB : relB ops n = true) (ht : tailB ops m (Array.replicate ops.size false) = true)
    (hdr : E w { w with drawn := w.drawn + 1 }) (hrefl : ∀ a, E a a) (htrans : ∀ a b c, E a b → E b c → E a c)
    (hV : V a0 { w with drawn := w.drawn + 1 })
    (h : relSeqV V P ops E a0 w Q (wpList P ops Q (tailFrom ops (Array.replicate ops.size false) (ops.size - m) m)) pre [] (fun t v _ => v = a0.tmps.getD t undef)) :
    (Code.region id ops true).wp P Q a0 w := by
  have hBs := relB_spec hB
  subst hpre
  obtain ⟨Rs, hS, hfin⟩ := specs_ofV (V := V) (P := P) (ops := ops) (E := E) (a0 := a0) (Q := Q) m hms (fun t v _ => v = a0.tmps.getD t undef) (ops.toList.take m) 0 [] (fun _ _ _ => True)
    (fun j hj => by simp at hj; simp [List.getElem?_take]; omega) (by simp; omega) rfl (fun j hj => by omega) (fun j hj => by omega) (fun j o hj => by omega) h
  refine wp_region_any hmo (wpAny_relV hBs hn hms (tailB_spec ht) hrefl htrans hS hfin _ _ _ _ ?_ ?_)
  · simp
  · refine ⟨by simp, fun j _ => rfl, fun j o hj hl => ?_, hdr, hV, rfl, rfl, fun t _ => rfl, fun j o d _ hj hl => ?_, fun j o _ hj hl => ?_⟩
    · by_cases hj : j < ops.size <;> simp [hj] at hl
    · by_cases hj : j < ops.size <;> simp [hj] at hl
    · by_cases hj : j < ops.size <;> simp [hj] at hl

end
section
variable {P : Program} {ops : Array Oper} {a0 : Act} {w1 : World} {Q : Exit → Act → World → Prop} {K : Act → World → Prop} {o : Oper} {rest : List Oper}
  {acc : List (Option Tmp × Spec)} {env : Tmp → Spec} {V : Act → World → Prop}
open Go.RowKit
theorem rel_anyV (R : Spec) (hR : ∀ v w w', R v w → Ext w w' → R v w')
    (h : ∀ a w (K' : Act → World → Prop), Ext w1 w → V a w → (∀ t ∈ o.looksAt ops, env t (a.tmps.getD t undef) w) → (∀ u w', Ext w w' → R u w' → V (a.put o.dst u) w' → K' (a.put o.dst u) w') →
      if Region.wanted o (yielded ops a.tmps) then o.wp P a w K' Q else R undef w ∧ V (a.put o.dst undef) w)
    (hrest : relSeqV V P ops Ext a0 w1 Q K rest (acc ++ [(o.dst, R)]) (upd env o.dst R)) :
    relSeqV V P ops Ext a0 w1 Q K (o :: rest) acc env :=
  ⟨R, hR, fun a w hE hV he => h a w _ hE hV he fun u _ hE' hu hV' => ⟨u, rfl, hE', hu, hV'⟩, hrest⟩
theorem relSeqV_nil (h : ∀ w, Ext w1 w → fin (fun a w => V a w → K a w) acc a0 w) : relSeqV V P ops Ext a0 w1 Q K [] acc env := h

/-- the blocks that slots s and t point to are two -/
def Two (s t : Nat) (a : Act) (w : World) : Prop :=
  (∀ g, a.tmps.getD s undef = .pointer (some ⟨g, 0, none⟩) → g < w.heap.size) ∧ (∀ g, a.tmps.getD t undef = .pointer (some ⟨g, 0, none⟩) → g < w.heap.size) ∧
  (∀ g, a.tmps.getD s undef = .pointer (some ⟨g, 0, none⟩) → a.tmps.getD t undef ≠ .pointer (some ⟨g, 0, none⟩))
theorem put_getD_ne (a : Act) (d s : Nat) (u : Value) (h : d ≠ s) : (a.put (some d) u).tmps.getD s undef = a.tmps.getD s undef := by
  simp [Act.put, Array.getElem?_setIfInBounds_ne h]
theorem Two.other {s t d : Nat} {a : Act} {w w' : World} (h : Two s t a w) (h1 : d ≠ s) (h2 : d ≠ t) (u : Value) (hE : Ext w w') : Two s t (a.put (some d) u) w' := by
  unfold Two
  rw [put_getD_ne a d s u h1, put_getD_ne a d t u h2]
  exact ⟨fun g hg => Nat.lt_of_lt_of_le (h.1 g hg) hE.size, fun g hg => Nat.lt_of_lt_of_le (h.2.1 g hg) hE.size, h.2.2⟩
theorem put_getD_self (a : Act) (d : Nat) (u : Value) : (a.put (some d) u).tmps.getD d undef = u ∨ (a.put (some d) u).tmps.getD d undef = undef := by
  by_cases h : d < a.tmps.size
  · left; simp [Act.put, h]
  · right; simp [Act.put, h]
theorem Two.first {s t : Nat} {a : Act} {w : World} (h : Two s t a w) (hst : s ≠ t) (o : Obj) : Two s t (a.put (some s) (.pointer (some ⟨w.heap.size, 0, none⟩))) (w.alloc o) := by
  unfold Two
  rw [put_getD_ne a s t _ hst]
  refine ⟨fun g hg => ?_, fun g hg => by have := h.2.1 g hg; simp; omega, fun g hg hg' => ?_⟩
  · rcases put_getD_self a s (.pointer (some ⟨w.heap.size, 0, none⟩)) with e | e
    · rw [e] at hg; injection hg with hg; injection hg with hg; injection hg with hg; subst hg; simp
    · rw [e] at hg; cases hg
  · have h1 := h.2.1 g hg'
    rcases put_getD_self a s (.pointer (some ⟨w.heap.size, 0, none⟩)) with e | e
    · rw [e] at hg; injection hg with hg; injection hg with hg; injection hg with hg; subst hg; omega
    · rw [e] at hg; cases hg
theorem Two.second {s t : Nat} {a : Act} {w : World} (h : Two s t a w) (hst : s ≠ t) (o : Obj) : Two s t (a.put (some t) (.pointer (some ⟨w.heap.size, 0, none⟩))) (w.alloc o) := by
  unfold Two
  rw [put_getD_ne a t s _ (Ne.symm hst)]
  refine ⟨fun g hg => by have := h.1 g hg; simp; omega, fun g hg => ?_, fun g hg hg' => ?_⟩
  · rcases put_getD_self a t (.pointer (some ⟨w.heap.size, 0, none⟩)) with e | e
    · rw [e] at hg; injection hg with hg; injection hg with hg; injection hg with hg; subst hg; simp
    · rw [e] at hg; cases hg
  · have h1 := h.1 g hg
    rcases put_getD_self a t (.pointer (some ⟨w.heap.size, 0, none⟩)) with e | e
    · rw [e] at hg'; injection hg' with hg'; injection hg' with hg'; injection hg' with hg'; subst hg'; omega
    · rw [e] at hg'; cases hg'
end
end Go.Proofs.Ytaianhhmmacblaa
