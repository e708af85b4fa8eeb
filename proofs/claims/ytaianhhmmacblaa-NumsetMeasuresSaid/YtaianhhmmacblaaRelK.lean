import Derived.Test.YtaianhhmmacblaaRelOps
import Derived.Test.YtaianhhmmacblaaMath0
/-
  Regions that draw their order, operation by operation, each by one law: the values are written out, the guards hold.
-/
namespace Go.Proofs.Ytaianhhmmacblaa
open Go Go.RowKit

def Is (v : Value) : Spec := fun u _ => u = v
def Nms (D : Nm) : Spec := fun v w => NmAt w v D
theorem Is.stable (v : Value) : ∀ u w w', Is v u w → Ext w w' → Is v u w' := fun _ _ _ h _ => h
theorem Nms.stable (D : Nm) : ∀ u w w', Nms D u w → Ext w w' → Nms D u w' := fun _ _ _ h hE => NmAt.ext h hE

/-- the guard's value is written out, and it lets the operation through -/
def GOk (ops : Array Oper) (o : Oper) (env : Tmp → Spec) : Prop :=
  match o.guard with
  | none => True
  | some (g, b) => ∃ d, (ops[g]?).bind (·.dst) = some d ∧ env d = Is (.bool b)
/-- .. and it passes the operation over -/
def GNo (ops : Array Oper) (o : Oper) (env : Tmp → Spec) : Prop :=
  match o.guard with
  | none => False
  | some (g, b) => ∃ d, (ops[g]?).bind (·.dst) = some d ∧ env d = Is (.bool !b)
theorem yielded_of {ops : Array Oper} {tmps : Array Value} {g d : Nat} {b : Bool} (hd : (ops[g]?).bind (·.dst) = some d) (h : tmps.getD d undef = .bool b) : yielded ops tmps g = some b := by
  unfold yielded
  rw [hd]
  simp only [Option.bind_some]
  have h2 : tmps[d]? = some (.bool b) := by
    rw [Array.getD_eq_getD_getElem?] at h
    cases hc : tmps[d]? with
    | none => rw [hc] at h; simp [undef] at h
    | some x => rw [hc] at h; simp at h; rw [h]
  rw [h2]
theorem guard_mem {ops : Array Oper} {o : Oper} {g d : Nat} {b : Bool} (hg : o.guard = some (g, b)) (hd : (ops[g]?).bind (·.dst) = some d) : d ∈ o.looksAt ops := by
  unfold Oper.looksAt
  rw [hg]
  simp [hd]
theorem GOk.wanted {ops : Array Oper} {o : Oper} {env : Tmp → Spec} {a : Act} {w : World} (h : GOk ops o env) (he : ∀ t ∈ o.looksAt ops, env t (a.tmps.getD t undef) w) : Region.wanted o (yielded ops a.tmps) = true := by
  unfold GOk at h
  unfold Region.wanted
  cases hg : o.guard with
  | none => rfl
  | some p =>
    obtain ⟨g, b⟩ := p
    rw [hg] at h
    obtain ⟨d, hd, he'⟩ := h
    have h1 := he d (guard_mem hg hd)
    rw [he'] at h1
    simp only
    rw [yielded_of hd h1]
    simp
theorem GNo.wanted {ops : Array Oper} {o : Oper} {env : Tmp → Spec} {a : Act} {w : World} (h : GNo ops o env) (he : ∀ t ∈ o.looksAt ops, env t (a.tmps.getD t undef) w) : Region.wanted o (yielded ops a.tmps) = false := by
  unfold GNo at h
  unfold Region.wanted
  cases hg : o.guard with
  | none => rw [hg] at h; exact h.elim
  | some p =>
    obtain ⟨g, b⟩ := p
    rw [hg] at h
    obtain ⟨d, hd, he'⟩ := h
    have h1 := he d (guard_mem hg hd)
    rw [he'] at h1
    simp only
    rw [yielded_of hd h1]
    cases b <;> rfl

section
variable {P : Program} {ops : Array Oper} {a0 : Act} {w1 : World} {Q : Exit → Act → World → Prop} {K : Act → World → Prop} {o : Oper} {rest : List Oper}
  {acc : List (Option Tmp × Spec)} {env : Tmp → Spec}

theorem relK (R : Spec) (hR : ∀ v w w', R v w → Ext w w' → R v w') (hg : GOk ops o env)
    (h : ∀ a w (K' : Act → World → Prop), Ext w1 w → (∀ t ∈ o.looksAt ops, env t (a.tmps.getD t undef) w) → (∀ u w', Ext w w' → R u w' → K' (a.put o.dst u) w') → o.wp P a w K' Q)
    (hrest : relSeq P ops Ext a0 w1 Q K rest (acc ++ [(o.dst, R)]) (upd env o.dst R)) :
    relSeq P ops Ext a0 w1 Q K (o :: rest) acc env :=
  rel_any R hR (fun a w K' hE he hK => by rw [if_pos (hg.wanted he)]; exact h a w K' hE he hK) hrest
/-- an operation that its guard passes over -/
theorem rel_skip (hg : GNo ops o env) (hrest : relSeq P ops Ext a0 w1 Q K rest (acc ++ [(o.dst, Is undef)]) (upd env o.dst (Is undef))) :
    relSeq P ops Ext a0 w1 Q K (o :: rest) acc env :=
  rel_any (Is undef) (Is.stable undef) (fun a w K' hE he hK => by rw [if_neg (by rw [hg.wanted he]; exact Bool.false_ne_true)]; rfl) hrest
theorem rel_val (v : Value) (hg : GOk ops o env)
    (hv : ∀ (ρ : Operand → Value) (w : World), Ext w1 w → (∀ c, ρ (.const c) = c) → (∀ t ∈ o.looksAt ops, env t (ρ (.tmp t)) w) → (execOp ρ o).run P w = .ok (.value v) w)
    (hrest : relSeq P ops Ext a0 w1 Q K rest (acc ++ [(o.dst, Is v)]) (upd env o.dst (Is v))) :
    relSeq P ops Ext a0 w1 Q K (o :: rest) acc env :=
  relK (Is v) (Is.stable v) hg (fun a w K' hE he hK => by
    unfold Oper.wp
    rw [hv a.eval w hE (fun _ => rfl) he]
    exact hK v w (Ext.refl w) rfl) hrest
theorem mem_of_contains {l : List Tmp} {t : Tmp} (h : l.contains t = true) : t ∈ l := by simpa using h
theorem rel_move {t : Tmp} {v : Value} (ho : o.op = .move (.tmp t)) (hg : GOk ops o env) (m : (o.looksAt ops).contains t = true) (e : env t = Is v)
    (hrest : relSeq P ops Ext a0 w1 Q K rest (acc ++ [(o.dst, Is v)]) (upd env o.dst (Is v))) :
    relSeq P ops Ext a0 w1 Q K (o :: rest) acc env :=
  rel_val v hg (fun ρ w _ _ he => by
    have h1 := he t (mem_of_contains m)
    rw [e] at h1
    unfold execOp
    rw [ho]
    have h2 : ρ (.tmp t) = v := h1
    rw [← h2]
    rfl) hrest
theorem rel_assign {t : Tmp} {v : Value} (ho : o.op = .assign (.tmp t)) (hg : GOk ops o env) (m : (o.looksAt ops).contains t = true) (e : env t = Is v)
    (hrest : relSeq P ops Ext a0 w1 Q K rest (acc ++ [(o.dst, Is v)]) (upd env o.dst (Is v))) :
    relSeq P ops Ext a0 w1 Q K (o :: rest) acc env :=
  rel_val v hg (fun ρ w _ _ he => by
    have h1 := he t (mem_of_contains m)
    rw [e] at h1
    unfold execOp
    rw [ho]
    have h2 : ρ (.tmp t) = v := h1
    rw [← h2]
    rfl) hrest
theorem rel_val0 {v : Value} (hg : GOk ops o env) (hv : ∀ (ρ : Operand → Value) (w : World), (∀ c, ρ (.const c) = c) → (execOp ρ o).run P w = .ok (.value v) w)
    (hrest : relSeq P ops Ext a0 w1 Q K rest (acc ++ [(o.dst, Is v)]) (upd env o.dst (Is v))) :
    relSeq P ops Ext a0 w1 Q K (o :: rest) acc env :=
  rel_val v hg (fun ρ w _ hc _ => hv ρ w hc) hrest
theorem rel_val1 {t : Tmp} {v1 v : Value} (hg : GOk ops o env) (m : (o.looksAt ops).contains t = true) (e : env t = Is v1)
    (hv : ∀ (ρ : Operand → Value) (w : World), (∀ c, ρ (.const c) = c) → ρ (.tmp t) = v1 → (execOp ρ o).run P w = .ok (.value v) w)
    (hrest : relSeq P ops Ext a0 w1 Q K rest (acc ++ [(o.dst, Is v)]) (upd env o.dst (Is v))) :
    relSeq P ops Ext a0 w1 Q K (o :: rest) acc env :=
  rel_val v hg (fun ρ w _ hc he => by
    have h1 := he t (mem_of_contains m)
    rw [e] at h1
    exact hv ρ w hc h1) hrest
theorem rel_val2 {t t' : Tmp} {v1 v2 v : Value} (hg : GOk ops o env) (m : (o.looksAt ops).contains t = true) (e : env t = Is v1) (m' : (o.looksAt ops).contains t' = true) (e' : env t' = Is v2)
    (hv : ∀ (ρ : Operand → Value) (w : World), (∀ c, ρ (.const c) = c) → ρ (.tmp t) = v1 → ρ (.tmp t') = v2 → (execOp ρ o).run P w = .ok (.value v) w)
    (hrest : relSeq P ops Ext a0 w1 Q K rest (acc ++ [(o.dst, Is v)]) (upd env o.dst (Is v))) :
    relSeq P ops Ext a0 w1 Q K (o :: rest) acc env :=
  rel_val v hg (fun ρ w _ hc he => by
    have h1 := he t (mem_of_contains m)
    rw [e] at h1
    have h2 := he t' (mem_of_contains m')
    rw [e'] at h2
    exact hv ρ w hc h1 h2) hrest
/-- a set of numbers read from its box -/
theorem rel_load {t : Tmp} {g : Nat} {D : Nm} (hg : GOk ops o env) (m : (o.looksAt ops).contains t = true) (e : env t = Is (.pointer (some ⟨g, 0, none⟩)))
    (hc : ∀ w, Ext w1 w → ∃ x y, w.cell? ⟨g, 0, none⟩ = some x ∧ w.cell? ⟨g, 1, none⟩ = some y ∧ NmAt w (.agg #[x, y]) D)
    (hv : ∀ (ρ : Operand → Value) (w : World) (x y : Value), ρ (.tmp t) = .pointer (some ⟨g, 0, none⟩) → w.cell? ⟨g, 0, none⟩ = some x → w.cell? ⟨g, 1, none⟩ = some y → (execOp ρ o).run P w = .ok (.value (.agg #[x, y])) w)
    (hrest : relSeq P ops Ext a0 w1 Q K rest (acc ++ [(o.dst, Nms D)]) (upd env o.dst (Nms D))) :
    relSeq P ops Ext a0 w1 Q K (o :: rest) acc env :=
  relK (Nms D) (Nms.stable D) hg (fun a w K' hE he hK => by
    have h1 := he t (mem_of_contains m)
    rw [e] at h1
    obtain ⟨x, y, h2, h3, h4⟩ := hc w hE
    unfold Oper.wp
    rw [hv a.eval w x y h1 h2 h3]
    exact hK _ w (Ext.refl w) h4) hrest
theorem rel_call (R : Spec) (hR : ∀ v w w', R v w → Ext w w' → R v w') (hg : GOk ops o env) {f : FuncId} (args : (Operand → Value) → Array Value)
    (hrun : ∀ (ρ : Operand → Value) (w : World), (∀ c, ρ (.const c) = c) → (∀ f, ρ (.func f) = .func (.func f) #[] #[]) → (execOp ρ o).run P w = .ok (.enter f (args ρ)) w)
    (hcall : ∀ (ρ : Operand → Value) (w : World), Ext w1 w → (∀ c, ρ (.const c) = c) → (∀ t ∈ o.looksAt ops, env t (ρ (.tmp t)) w) → Calls P f (args ρ) w fun e w' => ∃ u, e = .returned u ∧ R u w' ∧ Ext w w')
    (hrest : relSeq P ops Ext a0 w1 Q K rest (acc ++ [(o.dst, R)]) (upd env o.dst R)) :
    relSeq P ops Ext a0 w1 Q K (o :: rest) acc env :=
  relK R hR hg (fun a w K' hE he hK => by
    unfold Oper.wp
    rw [hrun a.eval w (fun _ => rfl) (fun _ => rfl)]
    show Calls P f _ w _
    refine (hcall a.eval w hE (fun _ => rfl) he).mono ?_
    rintro e w' ⟨u, rfl, h1, h2⟩
    exact hK u w' h2 h1) hrest
theorem rel_call0 (R : Spec) (hR : ∀ v w w', R v w → Ext w w' → R v w') (hg : GOk ops o env) {f : FuncId} (args : Array Value)
    (hrun : ∀ (ρ : Operand → Value) (w : World), (∀ c, ρ (.const c) = c) → (∀ f, ρ (.func f) = .func (.func f) #[] #[]) → (execOp ρ o).run P w = .ok (.enter f args) w)
    (hcall : ∀ (w : World), Ext w1 w → Calls P f args w fun e w' => ∃ u, e = .returned u ∧ R u w' ∧ Ext w w')
    (hrest : relSeq P ops Ext a0 w1 Q K rest (acc ++ [(o.dst, R)]) (upd env o.dst R)) :
    relSeq P ops Ext a0 w1 Q K (o :: rest) acc env :=
  rel_call R hR hg (fun _ => args) hrun (fun _ w hE _ _ => hcall w hE) hrest
theorem rel_call1 (R : Spec) (hR : ∀ v w w', R v w → Ext w w' → R v w') (hg : GOk ops o env) {f : FuncId} (args : Value → Array Value) {t : Tmp} {S : Spec} (m : (o.looksAt ops).contains t = true) (e : env t = S)
    (hrun : ∀ (ρ : Operand → Value) (w : World), (∀ c, ρ (.const c) = c) → (∀ f, ρ (.func f) = .func (.func f) #[] #[]) → (execOp ρ o).run P w = .ok (.enter f (args (ρ (.tmp t)))) w)
    (hcall : ∀ (w : World) (u : Value), Ext w1 w → S u w → Calls P f (args u) w fun e w' => ∃ u, e = .returned u ∧ R u w' ∧ Ext w w')
    (hrest : relSeq P ops Ext a0 w1 Q K rest (acc ++ [(o.dst, R)]) (upd env o.dst R)) :
    relSeq P ops Ext a0 w1 Q K (o :: rest) acc env :=
  rel_call R hR hg (fun ρ => args (ρ (.tmp t))) hrun (fun ρ w hE _ he => by
    have h1 := he t (mem_of_contains m)
    rw [e] at h1
    exact hcall w _ hE h1) hrest
theorem rel_call2 (R : Spec) (hR : ∀ v w w', R v w → Ext w w' → R v w') (hg : GOk ops o env) {f : FuncId} (args : Value → Value → Array Value) {t t' : Tmp} {S S' : Spec} (m : (o.looksAt ops).contains t = true) (e : env t = S)
    (m' : (o.looksAt ops).contains t' = true) (e' : env t' = S')
    (hrun : ∀ (ρ : Operand → Value) (w : World), (∀ c, ρ (.const c) = c) → (∀ f, ρ (.func f) = .func (.func f) #[] #[]) → (execOp ρ o).run P w = .ok (.enter f (args (ρ (.tmp t)) (ρ (.tmp t')))) w)
    (hcall : ∀ (w : World) (u u' : Value), Ext w1 w → S u w → S' u' w → Calls P f (args u u') w fun e w' => ∃ u, e = .returned u ∧ R u w' ∧ Ext w w')
    (hrest : relSeq P ops Ext a0 w1 Q K rest (acc ++ [(o.dst, R)]) (upd env o.dst R)) :
    relSeq P ops Ext a0 w1 Q K (o :: rest) acc env :=
  rel_call R hR hg (fun ρ => args (ρ (.tmp t)) (ρ (.tmp t'))) hrun (fun ρ w hE _ he => by
    have h1 := he t (mem_of_contains m)
    rw [e] at h1
    have h2 := he t' (mem_of_contains m')
    rw [e'] at h2
    exact hcall w _ _ hE h1 h2) hrest

/-- behind the last operation: only the last one's slot is looked at -/
theorem put_size (a : Act) (d : Option Tmp) (v : Value) : (a.put d v).tmps.size = a.tmps.size ∧ (a.put d v).defers = a.defers := by
  cases d <;> simp [Act.put]
theorem fin_last {t : Tmp} {R : Spec} : ∀ (l : List (Option Tmp × Spec)) (a : Act) (w : World), t < a.tmps.size →
    (∀ (a' : Act) (v : Value), R v w → a'.tmps.getD t undef = v → a'.defers = a.defers → K a' w) → fin K (l ++ [(some t, R)]) a w
  | [], a, w, ht, h => by
    intro v hv
    exact h _ v hv (by simp [Act.put, ht]) rfl
  | (d, S) :: l, a, w, ht, h => by
    intro v _
    have hp := put_size a d v
    exact fin_last l (a.put d v) w (by rw [hp.1]; exact ht) fun a' v' h1 h2 h3 => h a' v' h1 h2 (h3.trans hp.2)
end
/-- the last operation: it yields the result -/
theorem rel_assign_fin {P : Program} {ops : Array Oper} {a0 : Act} {w1 : World} {Q : Exit → Act → World → Prop} {K : Act → World → Prop} {o : Oper}
    {acc : List (Option Tmp × Spec)} {env : Tmp → Spec} {t d : Tmp} {v : Value} (ho : o.op = .assign (.tmp t)) (hd : o.dst = some d) (hg : GOk ops o env) (m : (o.looksAt ops).contains t = true) (e : env t = Is v) (hsz : d < a0.tmps.size)
    (h : ∀ (a' : Act) (w' : World), Ext w1 w' → a'.tmps.getD d undef = v → a'.defers = a0.defers → K a' w') : relSeq P ops Ext a0 w1 Q K [o] acc env := by
  refine rel_assign ho hg m e (relSeq_nil fun w5 hE5 => ?_)
  rw [hd]
  refine fin_last (R := Is v) acc a0 w5 hsz fun a' u hu h1 h2 => h a' w5 hE5 ?_ h2
  rw [h1]
  exact hu
theorem wp_region_all {P : Program} {ops : Array Oper} {a0 : Act} {Q : Exit → Act → World → Prop} {id n m : Nat} {pre : List Oper} {w : World} (hmo : P.follows .mixedOrders = true) (hpre : pre = ops.toList) (hm : m = ops.size)
    (hn : n = a0.tmps.size) (hB : relB ops n = true) (ht : tailB ops m (Array.replicate ops.size false) = true)
    (h : relSeq P ops Ext a0 w Q (fun a' w' => Q .normal a' w') pre [] (fun t v _ => v = a0.tmps.getD t undef)) :
    (Code.region id ops true).wp P Q a0 w := by
  subst hm
  refine wp_region_rel (E := Ext) (m := ops.size) hmo (pre := pre) (by rw [hpre]; exact (List.take_of_length_le (Nat.le_refl _)).symm) (Nat.le_refl _) hn hB ht ((Ext.refl _).drawn _) Ext.refl (fun _ _ _ => Ext.trans) ?_
  rw [Nat.sub_self]
  exact h
theorem conB {f : FuncId} {args : Array Value} {w : World} {v v' : Value} (h : Calls Try.prog f args w fun e w' => e = .returned v ∧ Ext w w') (e : v = v') : Calls Try.prog f args w fun e w' => ∃ u, e = .returned u ∧ Is v' u w' ∧ Ext w w' :=
  h.mono fun _ _ ⟨h1, h2⟩ => ⟨v, h1, e, h2⟩
end Go.Proofs.Ytaianhhmmacblaa
