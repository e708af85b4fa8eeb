import Derived.Test.YtaianhhmmacblaaChain
import Derived.Test.YtaianhhmmacblaaRelV
/-
  Regions that lay boxes: the boxes are several; stores into them.
-/
namespace Go.Proofs.Ytaianhhmmacblaa
open Go Go.RowKit

def Twos (S : List Tmp) (a : Act) (w : World) : Prop := ∀ s ∈ S, ∀ t ∈ S, s ≠ t → Two s t a w
theorem Two.mono {s t : Tmp} {a : Act} {w w' : World} (h : Two s t a w) (hE : Ext w w') : Two s t a w' :=
  ⟨fun g hg => Nat.lt_of_lt_of_le (h.1 g hg) hE.size, fun g hg => Nat.lt_of_lt_of_le (h.2.1 g hg) hE.size, h.2.2⟩
theorem Twos.other {S : List Tmp} {a : Act} {w w' : World} {d : Option Tmp} (h : Twos S a w) (hd : S.all (fun s => d != some s) = true) (u : Value) (hE : Ext w w') : Twos S (a.put d u) w' := by
  intro s hs t ht hne
  cases d with
  | none => exact (h s hs t ht hne).mono hE
  | some d =>
    have h1 := List.all_eq_true.1 hd s hs
    have h2 := List.all_eq_true.1 hd t ht
    exact (h s hs t ht hne).other (fun e => by subst e; simp at h1) (fun e => by subst e; simp at h2) u hE
theorem Twos.new {S : List Tmp} {a : Act} {w : World} (h : Twos S a w) (d : Tmp) (o : Obj) : Twos S (a.put (some d) (.pointer (some ⟨w.heap.size, 0, none⟩))) (w.alloc o) := by
  intro s hs t ht hne
  by_cases h1 : d = s
  · subst h1
    exact (h d hs t ht hne).first hne o
  · by_cases h2 : d = t
    · subst h2
      exact (h s hs d ht hne).second hne o
    · exact (h s hs t ht hne).other h1 h2 _ ((Ext.refl w).alloc o)
theorem Twos.none {S : List Tmp} {a : Act} {w : World} (h : ∀ s ∈ S, a.tmps.getD s undef = undef) : Twos S a w := by
  intro s hs t ht _
  refine ⟨fun g hg => ?_, fun g hg => ?_, fun g hg => ?_⟩
  · rw [h s hs] at hg; cases hg
  · rw [h t ht] at hg; cases hg
  · rw [h s hs] at hg; cases hg
/-- a new box -/
def BoxS (w0 : World) : Spec := fun v w => ∃ g, v = .pointer (some ⟨g, 0, none⟩) ∧ w0.heap.size ≤ g ∧ BlkN w g (.slice none 0 0) (.slice none 0 0)
theorem BoxS.stable (w0 : World) : ∀ v w w', BoxS w0 v w → Ext w w' → BoxS w0 v w' := fun _ _ _ ⟨g, h1, h2, h3⟩ hE => ⟨g, h1, h2, h3.ext hE⟩

section
variable {S : List Tmp} {P : Program} {ops : Array Oper} {a0 : Act} {w1 : World} {Q : Exit → Act → World → Prop} {K : Act → World → Prop} {o : Oper} {rest : List Oper}
  {acc : List (Option Tmp × Spec)} {env : Tmp → Spec}

theorem relKV (R : Spec) (hR : ∀ v w w', R v w → Ext w w' → R v w') (hg : GOk ops o env) (hd : S.all (fun s => o.dst != some s) = true)
    (h : ∀ a w (K' : Act → World → Prop), Ext w1 w → (∀ t ∈ o.looksAt ops, env t (a.tmps.getD t undef) w) → (∀ u w', Ext w w' → R u w' → K' (a.put o.dst u) w') → o.wp P a w K' Q)
    (hrest : relSeqV (Twos S) P ops Ext a0 w1 Q K rest (acc ++ [(o.dst, R)]) (upd env o.dst R)) :
    relSeqV (Twos S) P ops Ext a0 w1 Q K (o :: rest) acc env :=
  rel_anyV R hR (fun a w K' hE hV he hK => by rw [if_pos (hg.wanted he)]; exact h a w K' hE he fun u w' hE' hu => hK u w' hE' hu (hV.other hd u hE')) hrest
theorem rel_allocV {d : Tmp} (hd : o.dst = some d) (hg : GOk ops o env)
    (hv : ∀ (ρ : Operand → Value) (w : World), (execOp ρ o).run P w = .ok (.value (.pointer (some ⟨w.heap.size, 0, none⟩))) (w.alloc (.cells #[.slice none 0 0, .slice none 0 0] 24)))
    (hrest : relSeqV (Twos S) P ops Ext a0 w1 Q K rest (acc ++ [(o.dst, BoxS w1)]) (upd env o.dst (BoxS w1))) :
    relSeqV (Twos S) P ops Ext a0 w1 Q K (o :: rest) acc env :=
  rel_anyV (BoxS w1) (BoxS.stable w1) (fun a w K' hE hV he hK => by
    rw [if_pos (hg.wanted he)]
    unfold Oper.wp
    rw [hv a.eval w]
    refine hK _ _ ((Ext.refl w).alloc _) ⟨w.heap.size, rfl, hE.size, BlkN.new _ _ _⟩ ?_
    rw [hd]
    exact hV.new d _) hrest
theorem rel_valV (v : Value) (hd : S.all (fun s => o.dst != some s) = true) (hg : GOk ops o env)
    (hv : ∀ (ρ : Operand → Value) (w : World), Ext w1 w → (∀ c, ρ (.const c) = c) → (∀ t ∈ o.looksAt ops, env t (ρ (.tmp t)) w) → (execOp ρ o).run P w = .ok (.value v) w)
    (hrest : relSeqV (Twos S) P ops Ext a0 w1 Q K rest (acc ++ [(o.dst, Is v)]) (upd env o.dst (Is v))) :
    relSeqV (Twos S) P ops Ext a0 w1 Q K (o :: rest) acc env :=
  relKV (Is v) (Is.stable v) hg hd (fun a w K' hE he hK => by
    unfold Oper.wp
    rw [hv a.eval w hE (fun _ => rfl) he]
    exact hK v w (Ext.refl w) rfl) hrest
theorem rel_moveV {t : Tmp} {v : Value} (hd : S.all (fun s => o.dst != some s) = true) (ho : o.op = .move (.tmp t)) (hg : GOk ops o env) (m : (o.looksAt ops).contains t = true) (e : env t = Is v)
    (hrest : relSeqV (Twos S) P ops Ext a0 w1 Q K rest (acc ++ [(o.dst, Is v)]) (upd env o.dst (Is v))) :
    relSeqV (Twos S) P ops Ext a0 w1 Q K (o :: rest) acc env :=
  rel_valV v hd hg (fun ρ w _ _ he => by
    have h1 := he t (mem_of_contains m)
    rw [e] at h1
    unfold execOp
    rw [ho]
    have h2 : ρ (.tmp t) = v := h1
    rw [← h2]
    rfl) hrest
theorem rel_loadV {t : Tmp} {g : Nat} {D : Nm} (hd : S.all (fun s => o.dst != some s) = true) (hg : GOk ops o env) (m : (o.looksAt ops).contains t = true) (e : env t = Is (.pointer (some ⟨g, 0, none⟩)))
    (hc : ∀ w, Ext w1 w → ∃ x y, w.cell? ⟨g, 0, none⟩ = some x ∧ w.cell? ⟨g, 1, none⟩ = some y ∧ NmAt w (.agg #[x, y]) D)
    (hv : ∀ (ρ : Operand → Value) (w : World) (x y : Value), ρ (.tmp t) = .pointer (some ⟨g, 0, none⟩) → w.cell? ⟨g, 0, none⟩ = some x → w.cell? ⟨g, 1, none⟩ = some y → (execOp ρ o).run P w = .ok (.value (.agg #[x, y])) w)
    (hrest : relSeqV (Twos S) P ops Ext a0 w1 Q K rest (acc ++ [(o.dst, Nms D)]) (upd env o.dst (Nms D))) :
    relSeqV (Twos S) P ops Ext a0 w1 Q K (o :: rest) acc env :=
  relKV (Nms D) (Nms.stable D) hg hd (fun a w K' hE he hK => by
    have h1 := he t (mem_of_contains m)
    rw [e] at h1
    obtain ⟨x, y, h2, h3, h4⟩ := hc w hE
    unfold Oper.wp
    rw [hv a.eval w x y h1 h2 h3]
    exact hK _ w (Ext.refl w) h4) hrest
theorem rel_callV (R : Spec) (hR : ∀ v w w', R v w → Ext w w' → R v w') (hd : S.all (fun s => o.dst != some s) = true) (hg : GOk ops o env) {f : FuncId} (args : (Operand → Value) → Array Value)
    (hrun : ∀ (ρ : Operand → Value) (w : World), (∀ c, ρ (.const c) = c) → (∀ f, ρ (.func f) = .func (.func f) #[] #[]) → (execOp ρ o).run P w = .ok (.enter f (args ρ)) w)
    (hcall : ∀ (ρ : Operand → Value) (w : World), Ext w1 w → (∀ c, ρ (.const c) = c) → (∀ t ∈ o.looksAt ops, env t (ρ (.tmp t)) w) → Calls P f (args ρ) w fun e w' => ∃ u, e = .returned u ∧ R u w' ∧ Ext w w')
    (hrest : relSeqV (Twos S) P ops Ext a0 w1 Q K rest (acc ++ [(o.dst, R)]) (upd env o.dst R)) :
    relSeqV (Twos S) P ops Ext a0 w1 Q K (o :: rest) acc env :=
  relKV R hR hg hd (fun a w K' hE he hK => by
    unfold Oper.wp
    rw [hrun a.eval w (fun _ => rfl) (fun _ => rfl)]
    show Calls P f _ w _
    refine (hcall a.eval w hE (fun _ => rfl) he).mono ?_
    rintro e w' ⟨u, rfl, h1, h2⟩
    exact hK u w' h2 h1) hrest
theorem rel_call0V (R : Spec) (hR : ∀ v w w', R v w → Ext w w' → R v w') (hd : S.all (fun s => o.dst != some s) = true) (hg : GOk ops o env) {f : FuncId} (args : Array Value)
    (hrun : ∀ (ρ : Operand → Value) (w : World), (∀ c, ρ (.const c) = c) → (∀ f, ρ (.func f) = .func (.func f) #[] #[]) → (execOp ρ o).run P w = .ok (.enter f args) w)
    (hcall : ∀ (w : World), Ext w1 w → Calls P f args w fun e w' => ∃ u, e = .returned u ∧ R u w' ∧ Ext w w')
    (hrest : relSeqV (Twos S) P ops Ext a0 w1 Q K rest (acc ++ [(o.dst, R)]) (upd env o.dst R)) :
    relSeqV (Twos S) P ops Ext a0 w1 Q K (o :: rest) acc env :=
  rel_callV R hR hd hg (fun _ => args) hrun (fun _ w hE _ _ => hcall w hE) hrest
theorem rel_call1V (R : Spec) (hR : ∀ v w w', R v w → Ext w w' → R v w') (hd : S.all (fun s => o.dst != some s) = true) (hg : GOk ops o env) {f : FuncId} (args : Value → Array Value) {t : Tmp} {S1 : Spec} (m : (o.looksAt ops).contains t = true) (e : env t = S1)
    (hrun : ∀ (ρ : Operand → Value) (w : World), (∀ c, ρ (.const c) = c) → (∀ f, ρ (.func f) = .func (.func f) #[] #[]) → (execOp ρ o).run P w = .ok (.enter f (args (ρ (.tmp t)))) w)
    (hcall : ∀ (w : World) (u : Value), Ext w1 w → S1 u w → Calls P f (args u) w fun e w' => ∃ u, e = .returned u ∧ R u w' ∧ Ext w w')
    (hrest : relSeqV (Twos S) P ops Ext a0 w1 Q K rest (acc ++ [(o.dst, R)]) (upd env o.dst R)) :
    relSeqV (Twos S) P ops Ext a0 w1 Q K (o :: rest) acc env :=
  rel_callV R hR hd hg (fun ρ => args (ρ (.tmp t))) hrun (fun ρ w hE _ he => by
    have h1 := he t (mem_of_contains m)
    rw [e] at h1
    exact hcall w _ hE h1) hrest
theorem rel_call2V (R : Spec) (hR : ∀ v w w', R v w → Ext w w' → R v w') (hd : S.all (fun s => o.dst != some s) = true) (hg : GOk ops o env) {f : FuncId} (args : Value → Value → Array Value) {t t' : Tmp} {S1 S1' : Spec} (m : (o.looksAt ops).contains t = true) (e : env t = S1)
    (m' : (o.looksAt ops).contains t' = true) (e' : env t' = S1')
    (hrun : ∀ (ρ : Operand → Value) (w : World), (∀ c, ρ (.const c) = c) → (∀ f, ρ (.func f) = .func (.func f) #[] #[]) → (execOp ρ o).run P w = .ok (.enter f (args (ρ (.tmp t)) (ρ (.tmp t')))) w)
    (hcall : ∀ (w : World) (u u' : Value), Ext w1 w → S1 u w → S1' u' w → Calls P f (args u u') w fun e w' => ∃ u, e = .returned u ∧ R u w' ∧ Ext w w')
    (hrest : relSeqV (Twos S) P ops Ext a0 w1 Q K rest (acc ++ [(o.dst, R)]) (upd env o.dst R)) :
    relSeqV (Twos S) P ops Ext a0 w1 Q K (o :: rest) acc env :=
  rel_callV R hR hd hg (fun ρ => args (ρ (.tmp t)) (ρ (.tmp t'))) hrun (fun ρ w hE _ he => by
    have h1 := he t (mem_of_contains m)
    rw [e] at h1
    have h2 := he t' (mem_of_contains m')
    rw [e'] at h2
    exact hcall w _ _ hE h1 h2) hrest
theorem rel_endV {V : Act → World → Prop} {env0 : Tmp → Spec} (h0 : ∀ t w', env0 t (a0.tmps.getD t undef) w') {n : Nat} (hn : a0.tmps.size = n)
    (h : ∀ (a' : Act) (w' : World), Ext w1 w' → a'.defers = a0.defers → a'.tmps.size = n → (∀ t, t < n → endE acc env0 t (a'.tmps.getD t undef) w') → V a' w' → K a' w') :
    relSeqV V P ops Ext a0 w1 Q K [] acc env :=
  fun w hE => fin_known acc a0 w env0 hn (fun t _ => h0 t w) fun a' h1 h2 h3 hV => h a' w hE h1 h2 h3 hV
theorem relSeqV_env {V : Act → World → Prop} : ∀ (rest : List Oper) (acc : List (Option Tmp × Spec)) (env env1 : Tmp → Spec), (∀ t v w, Ext w1 w → env t v w → env1 t v w) →
    relSeqV V P ops Ext a0 w1 Q K rest acc env1 → relSeqV V P ops Ext a0 w1 Q K rest acc env
  | [], _, _, _, _, h => h
  | o :: rest, acc, env, env1, he, ⟨R, hR, hop, hrest⟩ => by
    refine ⟨R, hR, fun a w hE hV hl => hop a w hE hV fun t ht => he t _ w hE (hl t ht), relSeqV_env rest _ _ _ ?_ hrest⟩
    intro t v w hE h
    unfold upd at h ⊢
    split
    · rename_i e
      rw [if_pos e] at h
      exact h
    · rename_i e
      rw [if_neg e] at h
      exact he t v w hE h
end
theorem tail_drop (ops : Array Oper) : ∀ (n m : Nat), m + n = ops.size → tailFrom ops (Array.replicate ops.size false) n m = ops.toList.drop m
  | 0, m, h => by
    unfold tailFrom
    rw [List.drop_eq_nil_of_le (by simp; omega)]
  | n + 1, m, h => by
    have hm : m < ops.size := by omega
    unfold tailFrom
    have h1 : (Array.replicate ops.size false).getD m false = false := by simp [hm]
    rw [h1, tail_drop ops n (m + 1) (by omega)]
    have h2 : ops.toList.drop m = ops.toList[m]'(by simpa using hm) :: ops.toList.drop (m + 1) := List.drop_eq_getElem_cons (by simpa using hm)
    rw [h2]
    simp [hm]
/-- a region that draws its order and lays boxes, over known slots; its last operations are stores -/
theorem chain_boxes (S : List Tmp) {P : Program} {ops : Array Oper} {a0 : Act} {Q : Exit → Act → World → Prop} {id n m : Nat} {pre tl : List Oper} {w : World} {l : List (Tmp × Value)} (hk : Knows a0 l) (hn : a0.tmps.size = n)
    (hS : ∀ s ∈ S, a0.tmps.getD s undef = undef)
    (hmo : P.follows .mixedOrders = true) (hpre : pre = ops.toList.take m) (htl : tl = ops.toList.drop m) (hm : m ≤ ops.size) (hB : relB ops n = true) (ht : tailB ops m (Array.replicate ops.size false) = true)
    (h : relSeqV (Twos S) P ops Ext a0 w Q (wpList P ops Q tl) pre [] (envL l)) : (Code.region id ops true).wp P Q a0 w := by
  refine wp_region_relV (V := Twos S) (E := Ext) hmo hpre hm hn.symm hB ht ((Ext.refl _).drawn _) Ext.refl (fun _ _ _ => Ext.trans) (Twos.none hS) ?_
  rw [tail_drop ops (ops.size - m) m (by omega), ← htl]
  exact relSeqV_env _ _ _ _ (fun t v w' _ e => by subst e; exact hk.env t w') h
/-- what a store into a box does -/
structure Stored (w w' : World) (g : Nat) (x y : Value) : Prop where
  blk : BlkN w' g x y
  far : ∀ k, k ≠ g → w'.heap[k]? = w.heap[k]?
  below : ∀ n, n ≤ g → Below n w w'
  sl : ∀ A l, SlAt w w.heap.size A l → SlAt w' w'.heap.size A l
theorem Stored.box {w w' : World} {g h : Nat} {x y u v : Value} (s : Stored w w' g x y) (hb : BlkN w h u v) (hne : h ≠ g) : BlkN w' h u v := (s.far h hne).trans hb
theorem store_box {w : World} {g : Nat} {x y : Value} (hb : BlkN w g (.slice none 0 0) (.slice none 0 0)) : Stored w ((w.setCell ⟨g, 0, none⟩ x).setCell ⟨g, 1, none⟩ y) g x y :=
  ⟨(hb.set0 x).set1 y, fun k hk => (Below.heap_setCell _ ⟨g, 1, none⟩ y k hk).trans (Below.heap_setCell _ ⟨g, 0, none⟩ x k hk), fun n hn => Below.setCell (Below.setCell (Below.refl n w) hn _) hn _,
    fun A l hA => ((hA.setOther hb.cell0 (by simp) _).setOther (hb.set0 x).cell1 (by simp) _).mono (by simp [World.setCell])⟩
theorem Stored.nm {w w' : World} {g : Nat} {x y v : Value} {d : Nm} (s : Stored w w' g x y) (h : NmAt w v d) : NmAt w' v d := by
  obtain ⟨A, c, B, e, rfl, h1, h2⟩ := h
  exact ⟨A, c, B, e, rfl, s.sl _ _ h1, s.sl _ _ h2⟩
theorem wpList_store {P : Program} {ops : Array Oper} {Q : Exit → Act → World → Prop} {o : Oper} {rest : List Oper} {a : Act} {w : World} {t s : Tmp} {g : Nat} {x y : Value} (hgd : o.guard = none) (hd : o.dst = none)
    (ht : a.tmps.getD t undef = .pointer (some ⟨g, 0, none⟩)) (hs : a.tmps.getD s undef = .agg #[x, y]) (hb : BlkN w g (.slice none 0 0) (.slice none 0 0))
    (hrun : ∀ (ρ : Operand → Value) (w : World), ρ (.tmp t) = .pointer (some ⟨g, 0, none⟩) → ρ (.tmp s) = .agg #[x, y] → w.cell? ⟨g, 0, none⟩ = some (.slice none 0 0) → (∀ i, w.frozen? ⟨g, i, none⟩ = false) →
      (∀ u, (w.setCell ⟨g, 0, none⟩ u).frozen? ⟨g, 1, none⟩ = false) → (∀ u, (w.setCell ⟨g, 0, none⟩ u).cell? ⟨g, 1, none⟩ = some (.slice none 0 0)) → (execOp ρ o).run P w = .ok .skip ((w.setCell ⟨g, 0, none⟩ x).setCell ⟨g, 1, none⟩ y))
    (h : ∀ w', Stored w w' g x y → wpList P ops Q rest a w') : wpList P ops Q (o :: rest) a w := by
  refine wpList_plain hgd fun K hK => ?_
  have hv := hrun a.eval w ht hs hb.cell0 (fun i => hb.frozen0 i) (fun u => (hb.set0 u).frozen0 1) (fun u => (hb.set0 u).cell1)
  unfold Oper.wp
  rw [hv]
  exact hK _ _ (by rw [hd]; exact h _ (store_box hb))
end Go.Proofs.Ytaianhhmmacblaa
