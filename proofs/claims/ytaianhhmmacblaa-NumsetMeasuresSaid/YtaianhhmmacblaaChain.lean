import Derived.Test.YtaianhhmmacblaaRelK
/-
  Regions one behind the other, over frames of which only some slots are known.
-/
namespace Go.Proofs.Ytaianhhmmacblaa
open Go Go.RowKit

/-- the slots that are known -/
def envL : List (Tmp × Value) → Tmp → Spec
  | [], _ => fun _ _ => True
  | (t', x) :: l, t => if t = t' then Is x else envL l t
def Knows (a : Act) : List (Tmp × Value) → Prop
  | [] => True
  | (t, x) :: l => a.tmps.getD t undef = x ∧ Knows a l
theorem Knows.env {a : Act} : ∀ {l : List (Tmp × Value)}, Knows a l → ∀ t w, envL l t (a.tmps.getD t undef) w
  | [], _, _, _ => trivial
  | (t', x) :: l, h, t, w => by
    unfold envL
    split
    · rename_i e
      subst e
      exact h.1
    · exact Knows.env h.2 t w
/-- what is known of the slots behind a region -/
def endE (acc : List (Option Tmp × Spec)) (env0 : Tmp → Spec) : Tmp → Spec := acc.foldl (fun e x => upd e x.1 x.2) env0
theorem spec_of {env : Tmp → Spec} {S : Spec} {t : Tmp} {v : Value} {w : World} (h : env t v w) (e : env t = S) : S v w := e ▸ h
theorem knows_of {env : Tmp → Spec} {a : Act} {w : World} {t : Tmp} {x : Value} (h : env t (a.tmps.getD t undef) w) (e : env t = Is x) : a.tmps.getD t undef = x := by
  rw [e] at h
  exact h
theorem put_other {a : Act} {d : Option Tmp} {v : Value} {t : Tmp} (h : d ≠ some t) : (a.put d v).tmps.getD t undef = a.tmps.getD t undef := by
  cases d with
  | none => rfl
  | some d =>
    have : d ≠ t := fun e => h (by rw [e])
    simp [Act.put, this]
theorem put_same {a : Act} {v : Value} {t : Tmp} (h : t < a.tmps.size) : (a.put (some t) v).tmps.getD t undef = v := by
  simp [Act.put, h]

section
variable {P : Program} {ops : Array Oper} {a0 : Act} {w1 : World} {Q : Exit → Act → World → Prop} {K : Act → World → Prop}

theorem relSeq_env : ∀ (rest : List Oper) (acc : List (Option Tmp × Spec)) (env env1 : Tmp → Spec), (∀ t v w, Ext w1 w → env t v w → env1 t v w) →
    relSeq P ops Ext a0 w1 Q K rest acc env1 → relSeq P ops Ext a0 w1 Q K rest acc env
  | [], _, _, _, _, h => h
  | o :: rest, acc, env, env1, he, ⟨R, hR, hop, hrest⟩ => by
    refine ⟨R, hR, fun a w hE hl => hop a w hE fun t ht => he t _ w hE (hl t ht), relSeq_env rest _ _ _ ?_ hrest⟩
    intro t v w hE h
    unfold upd at h ⊢
    split
    · rename_i e
      rw [if_pos e] at h
      exact h
    · rename_i e
      rw [if_neg e] at h
      exact he t v w hE h
theorem fin_known {n : Nat} : ∀ (l : List (Option Tmp × Spec)) (a : Act) (w : World) (env : Tmp → Spec), a.tmps.size = n → (∀ t, t < n → env t (a.tmps.getD t undef) w) →
    (∀ (a' : Act), a'.defers = a.defers → a'.tmps.size = n → (∀ t, t < n → endE l env t (a'.tmps.getD t undef) w) → K a' w) → fin K l a w
  | [], a, w, env, hn, he, h => h a rfl hn he
  | (d, R) :: l, a, w, env, hn, he, h => by
    intro v hv
    have hp := put_size a d v
    refine fin_known (n := n) l (a.put d v) w (upd env d R) (hp.1.trans hn) ?_ ?_
    · intro t ht
      have hlt : t < a.tmps.size := by rw [hn]; exact ht
      unfold upd
      split
      · rename_i e
        subst e
        rw [put_same (a := a) (v := v) hlt]
        exact hv
      · rename_i e
        rw [put_other e]
        exact he t ht
    · intro a' h1 h2 h3
      exact h a' (h1.trans hp.2) h2 h3
/-- the region's end: what is known of the slots -/
theorem rel_end {acc : List (Option Tmp × Spec)} {env env0 : Tmp → Spec} (h0 : ∀ t w', env0 t (a0.tmps.getD t undef) w') {n : Nat} (hn : a0.tmps.size = n)
    (h : ∀ (a' : Act) (w' : World), Ext w1 w' → a'.defers = a0.defers → a'.tmps.size = n → (∀ t, t < n → endE acc env0 t (a'.tmps.getD t undef) w') → K a' w') :
    relSeq P ops Ext a0 w1 Q K [] acc env :=
  fun w hE => fin_known acc a0 w env0 hn (fun t _ => h0 t w) fun a' h1 h2 h3 => h a' w hE h1 h2 h3
end
/-- the guard's own operation was passed over -/
def GNu (ops : Array Oper) (o : Oper) (env : Tmp → Spec) : Prop :=
  match o.guard with
  | none => False
  | some (g, _) => ∃ d, (ops[g]?).bind (·.dst) = some d ∧ env d = Is undef
theorem yielded_undef {ops : Array Oper} {tmps : Array Value} {g d : Nat} (hd : (ops[g]?).bind (·.dst) = some d) (h : tmps.getD d undef = undef) : yielded ops tmps g = none := by
  unfold yielded
  rw [hd]
  simp only [Option.bind_some]
  cases hc : tmps[d]? with
  | none => rfl
  | some x =>
    have hx : x = undef := by
      rw [Array.getD_eq_getD_getElem?, hc] at h
      exact h
    rw [hx]
    rfl
theorem GNu.wanted {ops : Array Oper} {o : Oper} {env : Tmp → Spec} {a : Act} {w : World} (h : GNu ops o env) (he : ∀ t ∈ o.looksAt ops, env t (a.tmps.getD t undef) w) : Region.wanted o (yielded ops a.tmps) = false := by
  unfold GNu at h
  unfold Region.wanted
  cases hg : o.guard with
  | none => rw [hg] at h; exact h.elim
  | some p =>
    obtain ⟨g, b⟩ := p
    rw [hg] at h
    obtain ⟨d, hd, he'⟩ := h
    have h1 := he d (guard_mem hg hd)
    rw [he'] at h1
    simp only
    rw [yielded_undef hd h1]
    rfl
theorem rel_skipu {P : Program} {ops : Array Oper} {a0 : Act} {w1 : World} {Q : Exit → Act → World → Prop} {K : Act → World → Prop} {o : Oper} {rest : List Oper} {acc : List (Option Tmp × Spec)} {env : Tmp → Spec}
    (hg : GNu ops o env) (hrest : relSeq P ops Ext a0 w1 Q K rest (acc ++ [(o.dst, Is undef)]) (upd env o.dst (Is undef))) :
    relSeq P ops Ext a0 w1 Q K (o :: rest) acc env :=
  rel_any (Is undef) (Is.stable undef) (fun a w K' hE he hK => by rw [if_neg (by rw [hg.wanted he]; exact Bool.false_ne_true)]; exact rfl) hrest
/-- a region that draws its order, over known slots -/
theorem chain_draw {P : Program} {ops : Array Oper} {a0 : Act} {Q : Exit → Act → World → Prop} {id n : Nat} {pre : List Oper} {w : World} {l : List (Tmp × Value)} (hk : Knows a0 l) (hn : a0.tmps.size = n)
    (hmo : P.follows .mixedOrders = true) (hpre : pre = ops.toList) (hB : relB ops n = true) (ht : tailB ops ops.size (Array.replicate ops.size false) = true)
    (h : relSeq P ops Ext a0 w Q (fun a' w' => Q .normal a' w') pre [] (envL l)) : (Code.region id ops true).wp P Q a0 w :=
  wp_region_all hmo hpre rfl hn.symm hB ht (relSeq_env _ _ _ _ (fun t v w' _ e => by subst e; exact hk.env t w') h)
theorem wpList_rel {P : Program} {ops : Array Oper} {a0 : Act} {w1 : World} {Q : Exit → Act → World → Prop} : ∀ (rest : List Oper) (acc : List (Option Tmp × Spec)) (env : Tmp → Spec) (a : Act) (w : World),
    Ext w1 w → (∀ t w', Ext w w' → env t (a.tmps.getD t undef) w') → (∀ o ∈ rest, ∀ d, o.dst = some d → d < a.tmps.size) →
    (∀ l w', Ext w w' → fin (fun a' w' => Q .normal a' w') (acc ++ l) a0 w' → fin (fun a' w' => Q .normal a' w') l a w') →
    relSeq P ops Ext a0 w1 Q (fun a' w' => Q .normal a' w') rest acc env → wpList P ops Q rest a w
  | [], acc, env, a, w, hE, _, _, hF, h => hF [] w (Ext.refl w) (by rw [List.append_nil]; exact h w hE)
  | o :: rest, acc, env, a, w, hE, he, hs, hF, ⟨R, hR, hop, hrest⟩ => by
    have step : ∀ v w', Ext w w' → R v w' → wpList P ops Q rest (a.put o.dst v) w' := by
      intro v w' hE' hv
      have hp := put_size a o.dst v
      refine wpList_rel rest _ _ _ w' (hE.trans hE') ?_ ?_ ?_ hrest
      · intro t w'' hE''
        unfold upd
        split
        · rename_i e
          rw [e, put_same (hs o (by simp) t e)]
          exact hR v w' w'' hv hE''
        · rename_i e
          rw [put_other e]
          exact he t w'' (hE'.trans hE'')
      · intro o' ho' d e
        rw [hp.1]
        exact hs o' (List.mem_cons_of_mem _ ho') d e
      · intro l w'' hE'' hf
        have h1 := hF ((o.dst, R) :: l) w'' (hE'.trans hE'') (by simpa using hf)
        exact h1 v (hR v w' w'' hv hE'')
    have h1 := hop a w hE fun t _ => he t w (Ext.refl w)
    unfold wpList
    split
    · rename_i hw
      rw [if_pos hw] at h1
      refine Or.inl (Oper.wp_mono ?_ h1)
      rintro a' w' ⟨v, rfl, hE', hv⟩
      exact step v w' hE' hv
    · rename_i hw
      rw [if_neg hw] at h1
      exact step undef w (Ext.refl w) h1
/-- a region in the order of the text, over known slots -/
theorem chain_list {P : Program} {ops : Array Oper} {a0 : Act} {Q : Exit → Act → World → Prop} {id n : Nat} {pre : List Oper} {w : World} {l : List (Tmp × Value)} (hk : Knows a0 l) (hn : a0.tmps.size = n)
    (hpre : pre = ops.toList) (hB : pre.all (fun o => match o.dst with | some d => decide (d < n) | none => true) = true)
    (h : relSeq P ops Ext a0 w Q (fun a' w' => Q .normal a' w') pre [] (envL l)) : (Code.region id ops false).wp P Q a0 w := by
  subst hpre
  refine wp_region_list (wpList_rel _ [] _ a0 w (Ext.refl w) (fun t w' _ => hk.env t w') ?_ (fun l w' _ h => h) h)
  intro o ho d e
  have := List.all_eq_true.1 hB o ho
  rw [e] at this
  rw [hn]
  exact of_decide_eq_true this
/-- what follows a code that ends by itself -/
def nxt (k : Act → World → Prop) (q : Exit → Act → World → Prop) : Exit → Act → World → Prop
  | .normal, a, w => k a w
  | e, a, w => q e a w
theorem nxt_normal {k : Act → World → Prop} {q : Exit → Act → World → Prop} {a : Act} {w : World} (h : k a w) : nxt k q .normal a w := h
theorem seq_nxt {x y : Code} {P : Program} {Q : Exit → Act → World → Prop} {a : Act} {w : World} (h : x.wp P (nxt (fun a w => y.wp P Q a w) Q) a w) : (Code.seq x y).wp P Q a w :=
  wp_seq (wp_mono h fun e a w hq => by cases e <;> exact hq)
theorem conW {f : FuncId} {args : Array Value} {w : World} {v v' : Value} (h : Calls Try.prog f args w fun e w' => e = .returned v ∧ w = w') (e : v = v') : Calls Try.prog f args w fun e w' => ∃ u, e = .returned u ∧ Is v' u w' ∧ Ext w w' :=
  h.mono fun _ _ ⟨h1, h2⟩ => ⟨v, h1, e, by subst h2; exact Ext.refl w⟩
/-- what a code leaves behind, said once: the ways through it are taken apart ahead, the rest is walked once -/
theorem wp_split {c : Code} {P : Program} {Q : Exit → Act → World → Prop} {a : Act} {w : World} (S : Act → World → Prop) (h1 : c.wp P (fun e a' w' => e = .normal ∧ S a' w') a w) (h2 : ∀ a' w', S a' w' → Q .normal a' w') : c.wp P Q a w :=
  wp_mono h1 fun e a' w' ⟨he, hs⟩ => by subst he; exact h2 a' w' hs
end Go.Proofs.Ytaianhhmmacblaa
