import Derived.Test.YtpgkdhhlcpgjcaaGreatDoorSndC
import Derived.Scope
/-
  A region that draws its order: the run in the order of the text.
-/
namespace Ev
open Go Go.RowKit

structure RelB (ops : Array Oper) (n : Nat) : Prop where
  dep : ∀ (k : Nat) (o : Oper), ops[k]? = some o → ∀ t ∈ o.looksAt ops, ∀ (j : Nat) (o' : Oper), ops[j]? = some o' → o'.dst = some t → j < k ∧ ∃ e ∈ o.after, e.on = j ∧ Region.binds .any e = true
  dist : ∀ (k : Nat) (o : Oper), ops[k]? = some o → ∀ (j : Nat) (o' : Oper), ops[j]? = some o' → o.dst ≠ none → o'.dst = o.dst → j = k
  bound : ∀ (k : Nat) (o : Oper), ops[k]? = some o → ∀ d : Nat, o.dst = some d → d < n
  down : ∀ (k : Nat) (o : Oper), ops[k]? = some o → ∀ e ∈ o.after, Region.binds .any e = true → e.on < k
theorem relB_spec {ops : Array Oper} {n : Nat} (h : relB ops.toList n = true) : RelB ops n := by
  unfold relB at h
  rw [List.all_eq_true] at h
  have mem : ∀ k o, ops[k]? = some o → (o, k) ∈ ops.toList.zipIdx := fun k o hk => by
    rw [List.mem_zipIdx_iff_getElem?]; simpa using hk
  refine ⟨fun k o hk t ht j o' hj hd => ?_, fun k o hk j o' hj hn he => ?_, fun k o hk d hd => ?_, fun k o hk e he hb => ?_⟩
  · have := h _ (mem k o hk)
    simp only [Bool.and_eq_true, List.all_eq_true] at this
    have h2 := this.1.1.1 t (by simpa using ht) _ (mem j o' hj)
    rw [hd] at h2
    simp only [bne_self_eq_false, Bool.false_or, Bool.and_eq_true, decide_eq_true_eq, Array.any_eq_true', beq_iff_eq] at h2
    exact ⟨h2.1, h2.2⟩
  · have := h _ (mem k o hk)
    simp only [Bool.and_eq_true, List.all_eq_true] at this
    have h2 := this.1.1.2 _ (mem j o' hj)
    simp at h2
    rcases h2 with (h2 | h2) | h2
    · exact h2
    · rw [← he] at hn; exact absurd h2 hn
    · exact absurd he h2
  · have := h _ (mem k o hk)
    simp only [Bool.and_eq_true, List.all_eq_true] at this
    have h2 := this.1.2
    simp [hd] at h2
    exact h2
  · have := h _ (mem k o hk)
    simp only [Bool.and_eq_true, List.all_eq_true] at this
    have h2 := this.2
    rw [Array.all_eq_true_iff_forall_mem] at h2
    have := h2 e he
    simpa [hb] using this

/-- what stands ahead of an operation, and what it yields -/
structure Rcd where
  fr : Fr
  st : St
  s : SVal
  b : Bool
  post : St
  acc : List Tch
/-- the state that the operation sees -/
noncomputable def inner (before : List Nat) (sup : List Tch) (k : Nat) (R : Rcd) : St := ⟨R.st.heap, R.st.next, R.st.next, [], barred before k R.acc (barredOld before k R.st.next sup R.st.ban)⟩
structure StepD (E : Env) (call : CallF) (ops : Array Oper) (before : List Nat) (sup : List Tch) (k : Nat) (o : Oper) (R R' : Rcd) : Prop where
  want : wantS ops.toList R.fr o.guard = some R.b
  run : R.b = true → opS o.op E call (evS R.fr) (inner before sup k R) = some (R.s, R.post)
  not : R.b = false → R.s = .tup [] ∧ R.post = inner before sup k R
  put : putS R.fr o.dst R.s = some R'.fr
  st : R'.st = ⟨R.post.heap, R.post.next, R.st.mark, below R.st.mark R.post.log ++ R.st.log, R.st.ban⟩
  acc : R'.acc = touched k R.st.next R.post.next R.post.log R.acc

theorem opsD_nil {E : Env} {call : CallF} {all : List Oper} {before : List Nat} {sup : List Tch} {k : Nat} {fr : Fr} {st : St} {acc : List Tch} : opsD E call all before sup [] k fr st acc = some (fr, st, acc) := rfl
theorem opsD_cons {E : Env} {call : CallF} {all : List Oper} {before : List Nat} {sup : List Tch} {o : Oper} {l : List Oper} {k : Nat} {fr : Fr} {st : St} {acc : List Tch} :
    opsD E call all before sup (o :: l) k fr st acc = bnd (wantS all fr o.guard) fun b => @Bool.rec (fun _ => M (Fr × St × List Tch)) (bnd (putS fr o.dst (.tup [])) fun fr' => opsD E call all before sup l (Nat.succ k) fr' st acc)
      (bnd (opS o.op E call (evS fr) ⟨st.heap, st.next, st.next, [], barred before k acc (barredOld before k st.next sup st.ban)⟩) fun p => bnd (putS fr o.dst p.1) fun fr' =>
        opsD E call all before sup l (Nat.succ k) fr' ⟨p.2.heap, p.2.next, st.mark, below st.mark p.2.log ++ st.log, st.ban⟩ (touched k st.next p.2.next p.2.log acc)) b := rfl
theorem trace_of {E : Env} {call : CallF} {ops : Array Oper} {before : List Nat} {sup : List Tch} : ∀ {l : List Oper} {k : Nat} {fr : Fr} {st : St} {acc : List Tch} {r : Fr × St × List Tch}, opsD E call ops.toList before sup l k fr st acc = some r →
    ∃ R : Nat → Rcd, (R k).fr = fr ∧ (R k).st = st ∧ (R k).acc = acc ∧ r = ((R (k + l.length)).fr, (R (k + l.length)).st, (R (k + l.length)).acc) ∧ ∀ (i : Nat) (o : Oper), l[i]? = some o → StepD E call ops before sup (k + i) o (R (k + i)) (R (k + i + 1))
  | [], k, fr, st, acc, r, h => by
    rw [opsD_nil] at h
    cases h
    exact ⟨fun _ => ⟨fr, st, .nilPtr, false, st, acc⟩, rfl, rfl, rfl, rfl, fun i o hi => by simp at hi⟩
  | o :: l, k, fr, st, acc, r, h => by
    rw [opsD_cons, bnd_some] at h
    obtain ⟨b, h1, h⟩ := h
    have fin : ∀ (R : Nat → Rcd) (rc : Rcd), StepD E call ops before sup k o rc (R (k + 1)) → r = ((R (k + 1 + l.length)).fr, (R (k + 1 + l.length)).st, (R (k + 1 + l.length)).acc) →
        (∀ (i : Nat) (o : Oper), l[i]? = some o → StepD E call ops before sup (k + 1 + i) o (R (k + 1 + i)) (R (k + 1 + i + 1))) → rc.fr = fr → rc.st = st → rc.acc = acc →
        ∃ R : Nat → Rcd, (R k).fr = fr ∧ (R k).st = st ∧ (R k).acc = acc ∧ r = ((R (k + (o :: l).length)).fr, (R (k + (o :: l).length)).st, (R (k + (o :: l).length)).acc) ∧
          ∀ (i : Nat) (o' : Oper), (o :: l)[i]? = some o' → StepD E call ops before sup (k + i) o' (R (k + i)) (R (k + i + 1)) := by
      intro R rc hs hr hall e1 e2 e3
      refine ⟨fun j => if j = k then rc else R j, by simp [e1], by simp [e2], by simp [e3], ?_, fun i o' hi => ?_⟩
      · have : k + 1 + l.length = k + (o :: l).length := by simp; omega
        rw [this] at hr
        rw [hr]
        have hne : k + (o :: l).length ≠ k := by simp
        simp only [if_neg hne]
      · cases i with
        | zero =>
          simp only [List.getElem?_cons_zero, Option.some.injEq] at hi
          subst hi
          simpa using hs
        | succ i =>
          have := hall i o' (by simpa using hi)
          have e : k + 1 + i = k + (i + 1) := by omega
          rw [e] at this
          simp only [if_neg (show k + (i + 1) ≠ k by omega), if_neg (show k + (i + 1) + 1 ≠ k by omega)]
          exact this
    cases b with
    | false =>
      have h : bnd (putS fr o.dst (.tup [])) (fun fr' => opsD E call ops.toList before sup l (Nat.succ k) fr' st acc) = some r := h
      rw [bnd_some] at h
      obtain ⟨fr1, h2, h3⟩ := h
      obtain ⟨R, g1, g2, g3, g4, g5⟩ := trace_of h3
      let rc : Rcd := ⟨fr, st, .tup [], false, inner before sup k ⟨fr, st, .tup [], false, st, acc⟩, acc⟩
      refine fin R rc ⟨h1, fun e => (by cases e), fun _ => ⟨rfl, rfl⟩, by rw [show R (k + 1) = R (Nat.succ k) from rfl, g1]; exact h2, by rw [show R (k + 1) = R (Nat.succ k) from rfl, g2]; rfl, ?_⟩ g4 g5 rfl rfl rfl
      rw [show R (k + 1) = R (Nat.succ k) from rfl, g3]
      show acc = @Bool.rec (fun _ => List Tch) (⟨k, st.next, st.next, []⟩ :: acc) acc (Nat.beq st.next st.next)
      rw [Nat.beq_refl]
    | true =>
      have h : bnd (opS o.op E call (evS fr) ⟨st.heap, st.next, st.next, [], barred before k acc (barredOld before k st.next sup st.ban)⟩) (fun p => bnd (putS fr o.dst p.1) fun fr' =>
        opsD E call ops.toList before sup l (Nat.succ k) fr' ⟨p.2.heap, p.2.next, st.mark, below st.mark p.2.log ++ st.log, st.ban⟩ (touched k st.next p.2.next p.2.log acc)) = some r := h
      rw [bnd_some] at h
      obtain ⟨⟨s, post⟩, h2, h⟩ := h
      rw [bnd_some] at h
      obtain ⟨fr1, h3, h4⟩ := h
      obtain ⟨R, g1, g2, g3, g4, g5⟩ := trace_of h4
      let rc : Rcd := ⟨fr, st, s, true, post, acc⟩
      exact fin R rc ⟨h1, fun _ => h2, fun e => (by cases e), by rw [show R (k + 1) = R (Nat.succ k) from rfl, g1]; exact h3, by rw [show R (k + 1) = R (Nat.succ k) from rfl, g2], by rw [show R (k + 1) = R (Nat.succ k) from rfl, g3]⟩ g4 g5 rfl rfl rfl

theorem mem_touched {j lo hi : Nat} {log : List Nat} {acc : List Tch} {t : Tch} : t ∈ touched j lo hi log acc ↔ t ∈ acc ∨ (t = ⟨j, lo, hi, log⟩ ∧ (lo ≠ hi ∨ log ≠ [])) := by
  unfold touched
  split
  · cases h : Nat.beq lo hi with
    | true => have := beq_true h; simp [this]
    | false =>
      have := beq_false h
      simp only [List.mem_cons]
      constructor
      · rintro (h | h)
        · exact .inr ⟨h, .inl this⟩
        · exact .inl h
      · rintro (h | h)
        · exact .inr h
        · exact .inl h.1
  · simp only [List.mem_cons]
    constructor
    · rintro (h | h)
      · exact .inr ⟨h, .inr (by simp)⟩
      · exact .inl h
    · rintro (h | h)
      · exact .inr h
      · exact .inl h.1


/-- an operation touches a name -/
def Touch (R : Rcd) (n : Nat) : Prop := (R.st.next ≤ n ∧ n < R.post.next) ∨ n ∈ R.post.log
instance (R : Rcd) (n : Nat) : Decidable (Touch R n) := by unfold Touch; infer_instance

theorem staI [Fam] {P : Program} {E : Env} (hE : EnvOk P E) {call : CallF} (hcall : CallOk P call) {ops : Array Oper} {sup : List Tch} {R : Nat → Rcd} (hR : ∀ (k : Nat) (o : Oper), ops[k]? = some o → StepD E call ops (Region.before ops).toList sup k o (R k) (R (k + 1))) {k : Nat} {o : Oper} (ho : ops[k]? = some o) : Sta (inner (Region.before ops).toList sup k (R k)) (R k).post := by
  have h := hR k o ho
  cases hb : (R k).b with
  | true => exact (opS_ok hE hcall (h.run hb)).1
  | false => rw [(h.not hb).2]; exact Sta.refl _
theorem nextStep [Fam] {P : Program} {E : Env} (hE : EnvOk P E) {call : CallF} (hcall : CallOk P call) {ops : Array Oper} {sup : List Tch} {R : Nat → Rcd} (hR : ∀ (k : Nat) (o : Oper), ops[k]? = some o → StepD E call ops (Region.before ops).toList sup k o (R k) (R (k + 1))) {k : Nat} {o : Oper} (ho : ops[k]? = some o) : (R k).st.next ≤ (R k).post.next ∧ (R (k + 1)).st.next = (R k).post.next := by
  have h := hR k o ho
  exact ⟨(staI hE hcall hR ho).next, by rw [h.st]⟩
theorem logStep [Fam] {P : Program} {E : Env} (hE : EnvOk P E) {call : CallF} (hcall : CallOk P call) {ops : Array Oper} {sup : List Tch} {R : Nat → Rcd} (hR : ∀ (k : Nat) (o : Oper), ops[k]? = some o → StepD E call ops (Region.before ops).toList sup k o (R k) (R (k + 1))) {k : Nat} {o : Oper} (ho : ops[k]? = some o) {n : Nat} (hn : n ∈ (R k).post.log) : banned n (inner (Region.before ops).toList sup k (R k)).ban = false ∧ n < (R k).st.next := by
  rcases (staI hE hcall hR ho).vis n hn with h | h
  · cases h
  · exact h
theorem outer_ban [Fam] {sup : List Tch} {k n : Nat} {before : List Nat} {rc : Rcd} (h : banned n (inner before sup k rc).ban = false) : banned n rc.st.ban = false := by
  cases hb : banned n rc.st.ban with
  | false => rfl
  | true =>
    have : banned n (inner before sup k rc).ban = true := (banned_barred ..).2 (.inl ((banned_barredOld ..).2 (.inl hb)))
    rw [h] at this
    cases this
theorem staStep [Fam] {P : Program} {E : Env} (hE : EnvOk P E) {call : CallF} (hcall : CallOk P call) {ops : Array Oper} {sup : List Tch} {R : Nat → Rcd} (hR : ∀ (k : Nat) (o : Oper), ops[k]? = some o → StepD E call ops (Region.before ops).toList sup k o (R k) (R (k + 1))) {k : Nat} {o : Oper} (ho : ops[k]? = some o) : Sta (R k).st (R (k + 1)).st := by
  have hs := staI hE hcall hR ho
  have h := hR k o ho
  rw [h.st]
  refine ⟨rfl, rfl, hs.next, fun n hn => List.mem_append_right _ hn, fun n h1 h2 h3 => ?_, fun hw => hs.wf hw, fun n hn => ?_⟩
  · have hnl : n ∉ (R k).post.log := fun hm => h3 (List.mem_append_left _ (mem_below.2 ⟨hm, h2⟩))
    exact hs.same n h1 h1 hnl
  · rcases List.mem_append.1 hn with hm | hm
    · obtain ⟨h4, h5⟩ := mem_below.1 hm
      exact .inr ⟨outer_ban (logStep hE hcall hR ho h4).1, h5⟩
    · exact .inl hm
theorem staTo [Fam] {P : Program} {E : Env} (hE : EnvOk P E) {call : CallF} (hcall : CallOk P call) {ops : Array Oper} {sup : List Tch} {R : Nat → Rcd} (hR : ∀ (k : Nat) (o : Oper), ops[k]? = some o → StepD E call ops (Region.before ops).toList sup k o (R k) (R (k + 1))) : ∀ {k : Nat}, k ≤ ops.size → ∀ {j : Nat}, j ≤ k → Sta (R j).st (R k).st
  | 0, _, j, hj => by cases Nat.le_zero.1 hj; exact Sta.refl _
  | k + 1, hk, j, hj => by
    rcases Nat.eq_or_lt_of_le hj with rfl | hlt
    · exact Sta.refl _
    · exact (staTo hE hcall hR (by omega) (by omega)).trans (staStep hE hcall hR (Array.getElem?_eq_getElem (show k < ops.size by omega)))
theorem wfAt [Fam] {P : Program} {E : Env} (hE : EnvOk P E) {call : CallF} (hcall : CallOk P call) {ops : Array Oper} {sup : List Tch} {R : Nat → Rcd} (hR : ∀ (k : Nat) (o : Oper), ops[k]? = some o → StepD E call ops (Region.before ops).toList sup k o (R k) (R (k + 1))) (hwf : Wf (R 0).st) {k : Nat} (hk : k ≤ ops.size) : Wf (R k).st := hwf.sta (staTo hE hcall hR hk (Nat.zero_le _))
theorem next_mono [Fam] {P : Program} {E : Env} (hE : EnvOk P E) {call : CallF} (hcall : CallOk P call) {ops : Array Oper} {sup : List Tch} {R : Nat → Rcd} (hR : ∀ (k : Nat) (o : Oper), ops[k]? = some o → StepD E call ops (Region.before ops).toList sup k o (R k) (R (k + 1))) {j k : Nat} (hj : j < k) (hk : k ≤ ops.size) : (R j).post.next ≤ (R k).st.next := by
  have := (nextStep hE hcall hR (Array.getElem?_eq_getElem (show j < ops.size by omega))).2
  rw [← this]
  exact (staTo hE hcall hR hk (show j + 1 ≤ k from hj)).next
theorem accAt {E : Env} {call : CallF} {ops : Array Oper} {sup : List Tch} {R : Nat → Rcd} (hR : ∀ (k : Nat) (o : Oper), ops[k]? = some o → StepD E call ops (Region.before ops).toList sup k o (R k) (R (k + 1))) (hacc : (R 0).acc = []) : ∀ {k : Nat}, k ≤ ops.size → ∀ t, t ∈ (R k).acc ↔ ∃ j, j < k ∧ t = ⟨j, (R j).st.next, (R j).post.next, (R j).post.log⟩ ∧ ((R j).st.next ≠ (R j).post.next ∨ (R j).post.log ≠ [])
  | 0, _, t => by
    rw [hacc]
    constructor
    · intro h; cases h
    · rintro ⟨j, hj, _⟩; omega
  | k + 1, hk, t => by
    have h := hR k _ (Array.getElem?_eq_getElem (show k < ops.size by omega))
    rw [h.acc, mem_touched, accAt hR hacc (show k ≤ ops.size by omega)]
    constructor
    · rintro (⟨j, hj, h1⟩ | ⟨h1, h2⟩)
      · exact ⟨j, by omega, h1⟩
      · exact ⟨k, by omega, h1, h2⟩
    · rintro ⟨j, hj, h1, h2⟩
      by_cases e : j = k
      · subst e; exact .inr ⟨h1, h2⟩
      · exact .inl ⟨j, by omega, h1, h2⟩
/-- what an elder operation touches is barred, unless the two are ordered -/
theorem barred_of [Fam] {E : Env} {call : CallF} {ops : Array Oper} {sup : List Tch} {R : Nat → Rcd} (hR : ∀ (k : Nat) (o : Oper), ops[k]? = some o → StepD E call ops (Region.before ops).toList sup k o (R k) (R (k + 1))) (hacc : (R 0).acc = []) {j k : Nat} (hj : j < k) (hk : k ≤ ops.size) {n : Nat} (ht : Touch (R j) n) (ho : ordered (Region.before ops).toList j k = false) : banned n (inner (Region.before ops).toList sup k (R k)).ban = true := by
  refine (banned_barred ..).2 (.inr ⟨⟨j, (R j).st.next, (R j).post.next, (R j).post.log⟩, (accAt hR hacc hk _).2 ⟨j, hj, rfl, ?_⟩, by show j ≠ k; omega, ho, ht⟩)
  rcases ht with h | h
  · left; omega
  · right; intro e; rw [e] at h; cases h
theorem wfI [Fam] {P : Program} {E : Env} (hE : EnvOk P E) {call : CallF} (hcall : CallOk P call) {ops : Array Oper} {sup : List Tch} {R : Nat → Rcd} (hR : ∀ (k : Nat) (o : Oper), ops[k]? = some o → StepD E call ops (Region.before ops).toList sup k o (R k) (R (k + 1))) (hacc : (R 0).acc = []) (hwf : Wf (R 0).st) {k : Nat} {o : Oper} (ho : ops[k]? = some o) : Wf (inner (Region.before ops).toList sup k (R k)) := by
  have hk : k < ops.size := (Array.getElem?_eq_some_iff.1 ho).1
  refine ⟨(wfAt hE hcall hR hwf (by omega)).none, fun n hn => ?_⟩
  rcases (banned_barred ..).1 hn with h | ⟨t, h1, h2, h3, h4⟩
  · rcases (banned_barredOld ..).1 h with h | ⟨t, _, _, _, _, h5⟩
    · exact (wfAt hE hcall hR hwf (by omega)).ban n h
    · exact h5
  · obtain ⟨j, hj, rfl, _⟩ := (accAt hR hacc (by omega) t).1 h1
    have hm := next_mono hE hcall hR hj (by omega)
    have hoj := Array.getElem?_eq_getElem (show j < ops.size by omega)
    have hns := nextStep hE hcall hR hoj
    rcases h4 with h4 | h4
    · show n < (R k).st.next
      simp only at h4
      omega
    · have := (logStep hE hcall hR hoj h4).2
      show n < (R k).st.next
      omega
/-- two that touch the same are ordered -/
theorem touch_ordered [Fam] {P : Program} {E : Env} (hE : EnvOk P E) {call : CallF} (hcall : CallOk P call) {ops : Array Oper} {sup : List Tch} {R : Nat → Rcd} (hR : ∀ (k : Nat) (o : Oper), ops[k]? = some o → StepD E call ops (Region.before ops).toList sup k o (R k) (R (k + 1))) (hacc : (R 0).acc = []) {j k : Nat} (hj : j < k) {o : Oper} (ho : ops[k]? = some o) {n : Nat} (h1 : Touch (R j) n) (h2 : Touch (R k) n) : ordered (Region.before ops).toList j k = true := by
  have hk : k < ops.size := (Array.getElem?_eq_some_iff.1 ho).1
  cases hb : ordered (Region.before ops).toList j k with
  | true => rfl
  | false =>
    exfalso
    have hban := barred_of hR hacc hj (by omega) h1 hb
    have hm := next_mono hE hcall hR hj (show k ≤ ops.size by omega)
    have hoj := Array.getElem?_eq_getElem (show j < ops.size by omega)
    have hns := nextStep hE hcall hR hoj
    rcases h2 with h2 | h2
    · rcases h1 with h1 | h1
      · omega
      · have := (logStep hE hcall hR hoj h1).2; omega
    · rw [(logStep hE hcall hR ho h2).1] at hban
      cases hban
end Ev
/-
  A region that draws its order: whatever the order, each operation sees what it saw in the order of the text.
-/
namespace Ev
open Go Go.RowKit

/-- what the names hold when the operations of D are done -/
noncomputable def lookD (R : Nat → Rcd) (D : Nat → Bool) : Nat → Look
  | 0, n => (R 0).st.look n
  | k + 1, n => if D k = true ∧ Touch (R k) n then (R (k + 1)).st.look n else lookD R D k n
theorem lookD_skip {R : Nat → Rcd} {D : Nat → Bool} {n : Nat} : ∀ {N m : Nat}, m ≤ N → (∀ i, m ≤ i → i < N → D i = true → ¬ Touch (R i) n) → lookD R D N n = lookD R D m n
  | 0, m, hm, _ => by cases Nat.le_zero.1 hm; rfl
  | N + 1, m, hm, h => by
    rcases Nat.eq_or_lt_of_le hm with rfl | hlt
    · rfl
    · rw [lookD, if_neg (fun q => h N (by omega) (by omega) q.1 q.2)]
      exact lookD_skip (by omega) fun i h1 h2 => h i h1 (by omega)
theorem lookD_set {R : Nat → Rcd} {D D' : Nat → Bool} {k : Nat} (hD : ∀ j, j ≠ k → D' j = D j) {n : Nat} (hn : ¬ Touch (R k) n) : ∀ N, lookD R D' N n = lookD R D N n
  | 0 => rfl
  | N + 1 => by
    rw [lookD, lookD, lookD_set hD hn N]
    by_cases e : N = k
    · subst e
      rw [if_neg (fun q => hn q.2), if_neg (fun q => hn q.2)]
    · rw [hD N e]

structure Knows (ρ : Val) (fr : Fr) (a : Act) (L : List Tmp) : Prop where
  get : ∀ t ∈ L, ∀ s, fr.get t = some s → ∃ v, a.tmps[t]? = some v ∧ den ρ s = some v
theorem Knows.eval {ρ : Val} {fr : Fr} {a : Act} {ops : Array Oper} {o : Oper} (h : Knows ρ fr a (o.looksAt ops)) (x : Operand) (hx : x ∈ o.op.operands.toList) (s : SVal) (hs : evS fr x = some s) : den ρ s = some (a.eval x) := by
  cases x with
  | tmp t =>
    obtain ⟨v, h1, h2⟩ := h.get t (List.mem_append_left _ (List.mem_filterMap.2 ⟨.tmp t, hx, rfl⟩)) s hs
    rw [h2]
    simp [Act.eval, Array.getD_eq_getD_getElem?, h1]
  | const v => exact ofV_den hs ρ
  | global g => cases hs
  | func f => cases hs; rfl
theorem Knows.want {ρ : Val} {fr : Fr} {a : Act} {ops : Array Oper} {o : Oper} (hf : Knows ρ fr a (o.looksAt ops)) {b : Bool} (h : wantS ops.toList fr o.guard = some b) : Region.wanted o (yielded ops a.tmps) = b := by
  unfold Region.wanted
  cases hg : o.guard with
  | none => rw [hg] at h; cases h; rfl
  | some p =>
    obtain ⟨j, want⟩ := p
    rw [hg] at h
    have h : bnd (ops.toList[j]?) (fun q => bnd q.dst fun d => bnd (fr.get d) fun v => guardIs want v) = some b := h
    rw [bnd_some] at h
    obtain ⟨q, h1, h⟩ := h
    rw [bnd_some] at h
    obtain ⟨d, h2, h⟩ := h
    rw [bnd_some] at h
    obtain ⟨s, h3, h4⟩ := h
    have h1 : ops[j]? = some q := by simpa using h1
    obtain ⟨v, h5, h6⟩ := hf.get d (List.mem_append_right _ (by simp [hg, h1, h2])) s h3
    have := guardIs_spec h4 h6
    simp only [yielded, h1, Option.bind_some, h2, h5]
    cases v <;> exact this


/-- the operations that stand in a list of marks -/
abbrev inD (listed : Array Bool) : Nat → Bool := fun k => listed.getD k false

structure Closed (ops : Array Oper) (listed : Array Bool) : Prop where
  size : listed.size = ops.size
  dep : ∀ (j : Nat) (o : Oper), ops[j]? = some o → inD listed j = true → ∀ e ∈ o.after, Region.binds .any e = true → inD listed e.on = true
theorem Closed.waits {ops : Array Oper} {listed : Array Bool} (h : Closed ops listed) {k j : Nat} (hw : Waits ops k j) : (∀ o, ops[k]? = some o → ∀ e ∈ o.after, Region.binds .any e = true → inD listed e.on = true) → inD listed j = true := by
  induction hw with
  | one h1 h2 h3 => exact fun hd => hd _ h1 _ h2 h3
  | more h1 h2 h3 _ ih => exact fun hd => ih fun o' ho' => h.dep _ o' ho' (hd _ h1 _ h2 h3)
theorem Closed.of {ops : Array Oper} {listed : Array Bool} (h : Closed ops listed) {k j : Nat} (hw : Waits ops k j) (hk : inD listed k = true) : inD listed j = true :=
  h.waits hw fun o ho => h.dep k o ho hk
/-- an operation whose turn may be next -/
structure Ready (ops : Array Oper) (listed : Array Bool) (k : Nat) (o : Oper) : Prop where
  op : ops[k]? = some o
  un : inD listed k = false
  deps : ∀ e ∈ o.after, Region.binds .any e = true → inD listed e.on = true

theorem waits_lt {ops : Array Oper} {R : Nat → Rcd} (hB : RelB ops (R 0).fr.n) {k j : Nat} (h : Waits ops k j) : j < k := by
  induction h with
  | one h1 h2 h3 => exact hB.down _ _ h1 _ h2 h3
  | more h1 h2 h3 _ ih => exact Nat.lt_trans ih (hB.down _ _ h1 _ h2 h3)
/-- ordered, and earlier in the text: it is done -/
theorem ready_ordered [Fam] {ops : Array Oper} {R : Nat → Rcd} (hB : RelB ops (R 0).fr.n) {listed : Array Bool} (hc : Closed ops listed) {k j : Nat} {o : Oper} (hr : Ready ops listed k o) (hj : j < k) (ho : ordered (Region.before ops).toList j k = true) : inD listed j = true := by
  rcases ordered_waits ho with h | h
  · exact hc.waits h fun o' ho' => by rw [hr.op] at ho'; cases ho'; exact hr.deps
  · have := waits_lt hB h; omega
theorem ready_later [Fam] {ops : Array Oper} {R : Nat → Rcd} (hB : RelB ops (R 0).fr.n) {listed : Array Bool} (hc : Closed ops listed) {k i : Nat} {o : Oper} (hr : Ready ops listed k o) (hi : k < i) (hd : inD listed i = true) : ordered (Region.before ops).toList k i = false := by
  cases h : ordered (Region.before ops).toList k i with
  | false => rfl
  | true =>
    exfalso
    rcases ordered_waits h with h | h
    · have := hc.of h hd
      rw [hr.un] at this
      cases this
    · have := waits_lt hB h; omega

theorem heap_skip [Fam] {P : Program} {E : Env} (hE : EnvOk P E) {call : CallF} (hcall : CallOk P call) {ops : Array Oper} {sup : List Tch} {R : Nat → Rcd} (hR : ∀ (k : Nat) (o : Oper), ops[k]? = some o → StepD E call ops (Region.before ops).toList sup k o (R k) (R (k + 1))) {n : Nat} : ∀ {k : Nat}, k ≤ ops.size → ∀ {j : Nat}, j ≤ k → (∀ i, j ≤ i → i < k → ¬ Touch (R i) n) → Wf (R 0).st → (R k).st.look n = (R j).st.look n
  | 0, _, j, hj, _, _ => by cases Nat.le_zero.1 hj; rfl
  | k + 1, hk, j, hj, h, hwf => by
    rcases Nat.eq_or_lt_of_le hj with rfl | hlt
    · rfl
    · have ho := Array.getElem?_eq_getElem (show k < ops.size by omega)
      rw [← heap_skip hE hcall hR (show k ≤ ops.size by omega) (show j ≤ k by omega) (fun i h1 h2 => h i h1 (by omega)) hwf]
      have ht := h k (by omega) (by omega)
      have hs := staI hE hcall hR ho
      have hw := wfAt hE hcall hR hwf (show k ≤ ops.size by omega)
      have hst := (hR k _ ho).st
      have hheap : (R k).post.heap.get n = (R k).st.heap.get n := by
        by_cases hn : n < (R k).st.next
        · exact hs.same n hn hn fun hm => ht (.inr hm)
        · have hn' : (R k).post.next ≤ n := by
            rcases Nat.lt_or_ge n (R k).post.next with q | q
            · exact absurd (.inl ⟨by omega, q⟩) ht
            · exact q
          rw [hs.wf hw.none n hn', hw.none n (by omega)]
      rw [look_eq, look_eq, hst]
      simp only
      rw [hheap]
/-- all that touched a name before are done -/
theorem lookD_done [Fam] {P : Program} {E : Env} (hE : EnvOk P E) {call : CallF} (hcall : CallOk P call) {ops : Array Oper} {sup : List Tch} {R : Nat → Rcd} (hR : ∀ (k : Nat) (o : Oper), ops[k]? = some o → StepD E call ops (Region.before ops).toList sup k o (R k) (R (k + 1))) (hwf : Wf (R 0).st) {D : Nat → Bool} {n : Nat} : ∀ {m : Nat}, m ≤ ops.size → (∀ j, j < m → Touch (R j) n → D j = true) → lookD R D m n = (R m).st.look n
  | 0, _, _ => rfl
  | m + 1, hm, h => by
    rw [lookD]
    by_cases ht : Touch (R m) n
    · rw [if_pos ⟨h m (by omega) ht, ht⟩]
    · rw [if_neg (fun q => ht q.2), lookD_done hE hcall hR hwf (show m ≤ ops.size by omega) fun j hj => h j (by omega)]
      have hno : ∀ i, m ≤ i → i < m + 1 → ¬ Touch (R i) n := fun i h1 h2 => by
        have e : i = m := by omega
        rw [e]
        exact ht
      exact (heap_skip hE hcall hR hm (show m ≤ m + 1 by omega) hno hwf).symm

/-- what an operation sees is what is there -/
theorem sees [Fam] {P : Program} {E : Env} (hE : EnvOk P E) {call : CallF} (hcall : CallOk P call) {ops : Array Oper} {sup : List Tch} {R : Nat → Rcd} (hR : ∀ (k : Nat) (o : Oper), ops[k]? = some o → StepD E call ops (Region.before ops).toList sup k o (R k) (R (k + 1))) (hacc : (R 0).acc = []) (hwf : Wf (R 0).st) (hB : RelB ops (R 0).fr.n) (hlate : lateOk (Region.before ops).toList sup (R ops.size).acc = true) {listed : Array Bool} (hc : Closed ops listed) {k : Nat} {o : Oper} (hr : Ready ops listed k o) {n : Nat} {ob : SObj} (hn : (inner (Region.before ops).toList sup k (R k)).look n = some ob) :
    lookD R (inD listed) ops.size n = some ob := by
  have hk : k < ops.size := (Array.getElem?_eq_some_iff.1 hr.op).1
  obtain ⟨h1, h2⟩ := look_of hn
  have h1 : (R k).st.heap.get n = some ob := h1
  have hlk : (R k).st.look n = some ob := by rw [look_eq, outer_ban h2]; exact h1
  have hw := wfAt hE hcall hR hwf (show k ≤ ops.size by omega)
  have hlt : n < (R k).st.next := by
    rcases Nat.lt_or_ge n (R k).st.next with q | q
    · exact q
    · rw [hw.none n q] at h1; cases h1
  have hA : ∀ i, k ≤ i → i < ops.size → inD listed i = true → ¬ Touch (R i) n := by
    intro i hki hi hd ht
    have hne : i ≠ k := fun e => by subst e; rw [hr.un] at hd; cases hd
    have hord := ready_later hB hc hr (show k < i by omega) hd
    have hoi := Array.getElem?_eq_getElem hi
    have hm := next_mono hE hcall hR (show k < i by omega) (show i ≤ ops.size by omega)
    have hns := nextStep hE hcall hR hr.op
    rcases ht with ht | ht
    · omega
    · have hmem : (⟨i, (R i).st.next, (R i).post.next, (R i).post.log⟩ : Tch) ∈ (R ops.size).acc := (accAt hR hacc (Nat.le_refl _) _).2 ⟨i, hi, rfl, .inr fun e => by rw [e] at ht; cases ht⟩
      rcases lateOk_spec hlate _ hmem n ht with h3 | ⟨s, h3, h4, h5⟩
      · have := h3 k (by show k < i; omega)
        simp only at this
        rw [hord] at this
        cases this
      · have h4 : s.j = i := h4
        have : banned n (inner (Region.before ops).toList sup k (R k)).ban = true := (banned_barred ..).2 (.inl ((banned_barredOld ..).2 (.inr ⟨s, h3, by omega, by rw [h4, ordered_symm]; exact hord, h5, hlt⟩)))
        have h2 : banned n (inner (Region.before ops).toList sup k (R k)).ban = false := h2
        rw [h2] at this
        cases this
  have hC : ∀ j, j < k → Touch (R j) n → inD listed j = true := by
    intro j hj ht
    cases hb : ordered (Region.before ops).toList j k with
    | true => exact ready_ordered hB hc hr hj hb
    | false =>
      have := barred_of hR hacc hj (by omega) ht hb
      have h2 : banned n (inner (Region.before ops).toList sup k (R k)).ban = false := h2
      rw [h2] at this
      cases this
  rw [lookD_skip (m := k) (by omega) hA, lookD_done hE hcall hR hwf (by omega) hC, hlk]

/-- what an operation has touched, it sees afterwards -/
theorem sees_own [Fam] {P : Program} {E : Env} (hE : EnvOk P E) {call : CallF} (hcall : CallOk P call) {ops : Array Oper} {sup : List Tch} {R : Nat → Rcd} (hR : ∀ (k : Nat) (o : Oper), ops[k]? = some o → StepD E call ops (Region.before ops).toList sup k o (R k) (R (k + 1))) (hacc : (R 0).acc = []) (hwf : Wf (R 0).st) {k : Nat} {o : Oper} (ho : ops[k]? = some o) {n : Nat} (ht : Touch (R k) n) : (R (k + 1)).st.look n = (R k).post.look n := by
  have hs := staI hE hcall hR ho
  have hb : banned n (inner (Region.before ops).toList sup k (R k)).ban = false := by
    rcases ht with h | h
    · cases hb : banned n (inner (Region.before ops).toList sup k (R k)).ban with
      | false => rfl
      | true =>
        have : n < (R k).st.next := (wfI hE hcall hR hacc hwf ho).ban n hb
        omega
    · exact (logStep hE hcall hR ho h).1
  rw [look_eq, look_eq, (hR k o ho).st, hs.ban, hb]
  simp only
  rw [outer_ban hb]

theorem look_own [Fam] {P : Program} {E : Env} (hE : EnvOk P E) {call : CallF} (hcall : CallOk P call) {ops : Array Oper} {sup : List Tch} {R : Nat → Rcd} (hR : ∀ (k : Nat) (o : Oper), ops[k]? = some o → StepD E call ops (Region.before ops).toList sup k o (R k) (R (k + 1))) (hacc : (R 0).acc = []) (hB : RelB ops (R 0).fr.n) {listed : Array Bool} (hc : Closed ops listed) {k : Nat} {o : Oper} (hr : Ready ops listed k o) {listed' : Array Bool} (hk' : inD listed' k = true) (hD : ∀ j, j ≠ k → inD listed' j = inD listed j) {n : Nat} (ht : Touch (R k) n) :
    lookD R (inD listed') ops.size n = (R (k + 1)).st.look n := by
  have hk : k < ops.size := (Array.getElem?_eq_some_iff.1 hr.op).1
  have hA : ∀ i, k + 1 ≤ i → i < ops.size → inD listed' i = true → ¬ Touch (R i) n := by
    intro i hki hi hd ht'
    rw [hD i (by omega)] at hd
    have := touch_ordered hE hcall hR hacc (show k < i by omega) (Array.getElem?_eq_getElem hi) ht ht'
    rw [ready_later hB hc hr (by omega) hd] at this
    cases this
  rw [lookD_skip (m := k + 1) (by omega) hA, lookD, if_pos ⟨hk', ht⟩]

/-- what holds when the operations of a list are done -/
structure DInv [Fam] (ops : Array Oper) (R : Nat → Rcd) (ρ0 : Val) (w0 : World) (listed : Array Bool) (ρ : Val) (a : Act) (w : World) : Prop where
  closed : Closed ops listed
  rep : Rep ρ (lookD R (inD listed) ops.size) w
  step : Step (R 0).st.next (R ops.size).st.next ρ0 (R 0).st.look w0 ρ (lookD R (inD listed) ops.size) w
  free : ∀ j, j < ops.size → inD listed j = false → Free ρ (R j).st.next (R j).post.next
  tsize : a.tmps.size = (R 0).fr.n
  defers : a.defers = []
  keep : ∀ (t : Nat) (s : SVal), (∀ (j : Nat) (o : Oper), ops[j]? = some o → inD listed j = true → o.dst ≠ some t) → (R 0).fr.get t = some s → ∃ v, a.tmps[t]? = some v ∧ den ρ s = some v
  vals : ∀ (j : Nat) (o : Oper) (d : Nat), ops[j]? = some o → inD listed j = true → o.dst = some d → ∃ v, a.tmps[d]? = some v ∧ den ρ (R j).s = some v

/-- the slots ahead of operation k -/
theorem fr_get {E : Env} {call : CallF} {ops : Array Oper} {sup : List Tch} {R : Nat → Rcd} (hR : ∀ (k : Nat) (o : Oper), ops[k]? = some o → StepD E call ops (Region.before ops).toList sup k o (R k) (R (k + 1))) {t : Nat} {s : SVal} : ∀ {k : Nat}, k ≤ ops.size → (R k).fr.get t = some s → (∃ (j : Nat) (o : Oper), j < k ∧ ops[j]? = some o ∧ o.dst = some t ∧ s = (R j).s) ∨ ((∀ (j : Nat) (o : Oper), j < k → ops[j]? = some o → o.dst ≠ some t) ∧ (R 0).fr.get t = some s)
  | 0, _, h => .inr ⟨fun j o hj => by omega, h⟩
  | k + 1, hk, h => by
    have ho := Array.getElem?_eq_getElem (show k < ops.size by omega)
    have hp := (hR k _ ho).put
    cases hd : ops[k].dst with
    | none =>
      rw [hd] at hp
      rw [putS_none hp] at h
      rcases fr_get hR (show k ≤ ops.size by omega) h with ⟨j, o, h1, h2, h3, h4⟩ | ⟨h1, h2⟩
      · exact .inl ⟨j, o, by omega, h2, h3, h4⟩
      · refine .inr ⟨fun j o hj hjo => ?_, h2⟩
        by_cases e : j = k
        · subst e; rw [ho] at hjo; cases hjo; rw [hd]; simp
        · exact h1 j o (by omega) hjo
    | some d =>
      rw [hd] at hp
      obtain ⟨_, _, h3⟩ := set_spec (putS_some hp)
      rw [h3] at h
      by_cases e : t = d
      · subst e
        rw [if_pos rfl] at h
        exact .inl ⟨k, ops[k], by omega, ho, hd, (Option.some.inj h).symm⟩
      · rw [if_neg e] at h
        rcases fr_get hR (show k ≤ ops.size by omega) h with ⟨j, o, h1, h2, h3, h4⟩ | ⟨h1, h2⟩
        · exact .inl ⟨j, o, by omega, h2, h3, h4⟩
        · refine .inr ⟨fun j o hj hjo => ?_, h2⟩
          by_cases e2 : j = k
          · subst e2; rw [ho] at hjo; cases hjo; rw [hd]; intro q; cases q; exact e rfl
          · exact h1 j o (by omega) hjo
theorem knows [Fam] {E : Env} {call : CallF} {ops : Array Oper} {sup : List Tch} {R : Nat → Rcd} (hR : ∀ (k : Nat) (o : Oper), ops[k]? = some o → StepD E call ops (Region.before ops).toList sup k o (R k) (R (k + 1))) (hB : RelB ops (R 0).fr.n) {ρ0 ρ : Val} {w0 w : World} {listed : Array Bool} {a : Act} (hI : DInv ops R ρ0 w0 listed ρ a w) {k : Nat} {o : Oper} (hr : Ready ops listed k o) : Knows ρ (R k).fr a (o.looksAt ops) := by
  have hk : k < ops.size := (Array.getElem?_eq_some_iff.1 hr.op).1
  refine ⟨fun t ht s hs => ?_⟩
  rcases fr_get hR (show k ≤ ops.size by omega) hs with ⟨j, o', h1, h2, h3, rfl⟩ | ⟨h1, h2⟩
  · obtain ⟨_, e, he, heon, hb⟩ := hB.dep k o hr.op t ht j o' h2 h3
    exact hI.vals j o' t h2 (heon ▸ hr.deps e he hb) h3
  · refine hI.keep t s (fun j o' hj hd hdst => ?_) h2
    obtain ⟨hjk, _⟩ := hB.dep k o hr.op t ht j o' hj hdst
    exact h1 j o' hjk hj hdst

/-- one operation more -/
theorem dinv_step [Fam] {P : Program} {E : Env} (hE : EnvOk P E) {call : CallF} (hcall : CallOk P call) {ops : Array Oper} {sup : List Tch} {R : Nat → Rcd} (hR : ∀ (k : Nat) (o : Oper), ops[k]? = some o → StepD E call ops (Region.before ops).toList sup k o (R k) (R (k + 1))) (hacc : (R 0).acc = []) (hwf : Wf (R 0).st) (hB : RelB ops (R 0).fr.n) (hlate : lateOk (Region.before ops).toList sup (R ops.size).acc = true) {ρ0 ρ ρ' : Val} {w0 w w' : World} {listed : Array Bool} {a : Act} {v : Value} (hI : DInv ops R ρ0 w0 listed ρ a w) {k : Nat} {o : Oper} (hr : Ready ops listed k o)
    (hg : Good (inner (Region.before ops).toList sup k (R k)) (R k).post (R k).s ρ w ρ' v w') : DInv ops R ρ0 w0 (listed.setIfInBounds k true) ρ' (a.put o.dst v) w' := by
  have hk : k < ops.size := (Array.getElem?_eq_some_iff.1 hr.op).1
  have hkl : k < listed.size := by rw [hI.closed.size]; exact hk
  have hset : inD (listed.setIfInBounds k true) k = true := by simp [inD, hkl]
  have hne : ∀ j, j ≠ k → inD (listed.setIfInBounds k true) j = inD listed j := fun j hj => getD_set_ne false (Ne.symm hj)
  have hdone : ∀ j, inD (listed.setIfInBounds k true) j = true → j = k ∨ inD listed j = true := fun j hj => by
    by_cases e : j = k
    · exact .inl e
    · rw [hne j e] at hj; exact .inr hj
  have hs := staI hE hcall hR hr.op
  have hns := nextStep hE hcall hR hr.op
  have hw := wfI hE hcall hR hacc hwf hr.op
  obtain ⟨h1, h2⟩ := frame_step (Touch (R k)) hI.rep (fun n ob hn => sees hE hcall hR hacc hwf hB hlate hI.closed hr hn) hg.rep hg.step (H' := lookD R (inD (listed.setIfInBounds k true)) ops.size)
    (fun n hn => by rw [look_own hE hcall hR hacc hB hI.closed hr hset hne hn, sees_own hE hcall hR hacc hwf hr.op hn]) (fun n hn => lookD_set hne hn _)
    (fun n hn => by
      have hheap : (R k).post.heap.get n = (inner (Region.before ops).toList sup k (R k)).heap.get n := by
        by_cases hlt : n < (R k).st.next
        · exact hs.same n hlt hlt fun hm => hn (.inr hm)
        · have hn' : (R k).post.next ≤ n := by
            rcases Nat.lt_or_ge n (R k).post.next with q | q
            · exact absurd (.inl ⟨by omega, q⟩) hn
            · exact q
          rw [hs.wf hw.none n hn', hw.none n (by show (R k).st.next ≤ n; omega)]
      rw [look_eq, look_eq, hs.ban, hheap])
  have hlo : (R 0).st.next ≤ (inner (Region.before ops).toList sup k (R k)).next := (staTo hE hcall hR (show k ≤ ops.size by omega) (Nat.zero_le _)).next
  have hhi : (R k).post.next ≤ (R ops.size).st.next := next_mono hE hcall hR hk (Nat.le_refl _)
  have hstep := hI.step.trans' (h2.wide hlo hhi)
  have hle := hg.step.le
  refine ⟨⟨by simp [hI.closed.size], fun j o' hj hd e he hb => ?_⟩, h1, hstep, fun j hj hd => ?_, by cases o.dst <;> simp [Act.put, hI.tsize], by cases o.dst <;> exact hI.defers, fun t s ht hs' => ?_, fun j o' d hj hd hdst => ?_⟩
  · rcases hdone j hd with rfl | hd'
    · rw [hr.op] at hj
      cases hj
      have := hr.deps e he hb
      by_cases q : e.on = j
      · rw [q]; exact hset
      · rw [hne _ q]; exact this
    · have := hI.closed.dep j o' hj hd' e he hb
      by_cases q : e.on = k
      · rw [q]; exact hset
      · rw [hne _ q]; exact this
  · have hjk : j ≠ k := fun e => by subst e; rw [hset] at hd; cases hd
    rw [hne j hjk] at hd
    intro n hn hn'
    rw [← hI.free j hj hd n hn hn']
    refine hg.step.off n ?_
    show n < (R k).st.next ∨ (R k).post.next ≤ n
    rcases Nat.lt_or_ge j k with q | q
    · have := next_mono hE hcall hR q (show k ≤ ops.size by omega); omega
    · have := next_mono hE hcall hR (show k < j by omega) (show j ≤ ops.size by omega); omega
  · obtain ⟨v', h3, h4⟩ := hI.keep t s (fun j o' hj hd hdst => by
      refine ht j o' hj ?_ hdst
      by_cases e : j = k
      · subst e; exact hset
      · rw [hne j e]; exact hd) hs'
    refine ⟨v', ?_, den_le hle _ _ h4⟩
    cases hdst : o.dst with
    | none => exact h3
    | some d =>
      have : d ≠ t := fun e => ht k o hr.op hset (by rw [hdst, e])
      simp [Act.put, Array.getElem?_setIfInBounds_ne this, h3]
  · rcases hdone j hd with rfl | hd'
    · rw [hr.op] at hj
      cases hj
      have hb := hB.bound j o hr.op d hdst
      exact ⟨v, by rw [hdst]; simp [Act.put, hI.tsize, hb], hg.val⟩
    · obtain ⟨v', h3, h4⟩ := hI.vals j o' d hj hd' hdst
      refine ⟨v', ?_, den_le hle _ _ h4⟩
      cases hdst2 : o.dst with
      | none => exact h3
      | some d2 =>
        have : d2 ≠ d := fun e => by
          have := hB.dist j o' hj k o hr.op (by rw [hdst]; simp) (by rw [hdst, hdst2, e])
          subst this
          rw [hr.un] at hd'
          cases hd'
        simp [Act.put, Array.getElem?_setIfInBounds_ne this, h3]
end Ev
/-
  Regions.
-/
namespace Ev
open Go Go.RowKit

theorem Rep.mono [Fam] {ρ : Val} {G H : Look} {w : World} (h : Rep ρ H w) (hs : ∀ n o, G n = some o → H n = some o) : Rep ρ G w :=
  ⟨fun k o hk => h.lies k o (hs k o hk), fun k j o o' l l' hk hj => h.sep k j o o' l l' (hs _ _ hk) (hs _ _ hj), fun k t hk => by
    obtain ⟨l, h1, fp, h2, h3⟩ := h.opq k t (hs _ _ hk)
    exact ⟨l, h1, fp, fun r hr => ⟨(h2 r hr).1, (h2 r hr).2.1, fun ⟨m, o, l2, a, b, c, d⟩ => (h2 r hr).2.2 ⟨m, o, l2, hs _ _ a, b, c, d⟩⟩, h3⟩⟩
theorem count_set (l : Array Bool) (i : Nat) (h : l.getD i true = false) : (l.setIfInBounds i true).toList.count false + 1 = l.toList.count false := by
  have hi : i < l.size := by
    rcases Nat.lt_or_ge i l.size with h' | h'
    · exact h'
    · simp [Array.getD, Nat.not_lt.2 h'] at h
  have hv : l[i] = false := by simpa [hi] using h
  rw [Array.toList_setIfInBounds, List.count_set (by simpa using hi)]
  have hm : 0 < l.toList.count false := List.count_pos_iff.2 (by rw [← hv]; simp)
  have h1 : (l.toList[i] == false) = true := by simp [hv]
  have h2 : (true == false) = false := rfl
  rw [h1, h2]
  simp only [if_true, Bool.false_eq_true, if_false]
  omega
theorem getD_tf {l : Array Bool} {j : Nat} (hj : j < l.size) : l.getD j true = l.getD j false := by simp [hj]
theorem lt_of_unlisted {l : Array Bool} {j : Nat} (h : l.getD j true = false) : j < l.size := by
  rcases Nat.lt_or_ge j l.size with h' | h'
  · exact h'
  · simp [Array.getD, Nat.not_lt.2 h'] at h


theorem dinv_op [Fam] {P : Program} {E : Env} (hE : EnvOk P E) {call : CallF} (hcall : CallOk P call) {ops : Array Oper} {sup : List Tch} {R : Nat → Rcd} (hR : ∀ (k : Nat) (o : Oper), ops[k]? = some o → StepD E call ops (Region.before ops).toList sup k o (R k) (R (k + 1))) (hacc : (R 0).acc = []) (hwf : Wf (R 0).st) (hB : RelB ops (R 0).fr.n) (hlate : lateOk (Region.before ops).toList sup (R ops.size).acc = true) {ρ0 ρ : Val} {w0 w : World} {listed : Array Bool} {a : Act} (hI : DInv ops R ρ0 w0 listed ρ a w) {k : Nat} {o : Oper} (hr : Ready ops listed k o) {Q : Exit → Act → World → Prop} {K : Act → World → Prop}
    (hK : ∀ ρ' a' w', DInv ops R ρ0 w0 (listed.setIfInBounds k true) ρ' a' w' → K a' w') : wpOp P ops Q k K a w := by
  have hk : k < ops.size := (Array.getElem?_eq_some_iff.1 hr.op).1
  have h := hR k o hr.op
  have kn := knows hR hB hI hr
  have hrep : Rep ρ (inner (Region.before ops).toList sup k (R k)).look w := hI.rep.mono fun n ob hn => sees hE hcall hR hacc hwf hB hlate hI.closed hr hn
  unfold wpOp
  rw [hr.op]
  simp only
  rw [kn.want h.want]
  cases hb : (R k).b with
  | false =>
    obtain ⟨h1, h2⟩ := h.not hb
    refine hK ρ _ _ (dinv_step hE hcall hR hacc hwf hB hlate hI hr ?_)
    rw [h1, h2]
    exact ⟨rfl, hrep, Step.refl _ _ _ _⟩
  | true =>
    obtain ⟨_, h2⟩ := opS_ok hE hcall (h.run hb)
    exact .inl (h2 hrep (wfI hE hcall hR hacc hwf hr.op) (hI.free k hk hr.un) kn.eval a K Q fun ρ' v w' hg => hK ρ' _ _ (dinv_step hE hcall hR hacc hwf hB hlate hI hr hg))

theorem dinv_wp [Fam] {P : Program} {E : Env} (hE : EnvOk P E) {call : CallF} (hcall : CallOk P call) {ops : Array Oper} {sup : List Tch} {R : Nat → Rcd} (hR : ∀ (k : Nat) (o : Oper), ops[k]? = some o → StepD E call ops (Region.before ops).toList sup k o (R k) (R (k + 1))) (hacc : (R 0).acc = []) (hwf : Wf (R 0).st) (hB : RelB ops (R 0).fr.n) (hlate : lateOk (Region.before ops).toList sup (R ops.size).acc = true) {ρ0 : Val} {w0 : World} {Q : Exit → Act → World → Prop}
    (hQ : ∀ ρ' a' w', FrOk ρ' (R ops.size).fr a' → Rep ρ' (R ops.size).st.look w' → Step (R 0).st.next (R ops.size).st.next ρ0 (R 0).st.look w0 ρ' (R ops.size).st.look w' → Q .normal a' w') :
    ∀ (fuel : Nat) (listed : Array Bool) (ρ : Val) (a : Act) (w : World), listed.toList.count false = fuel → DInv ops R ρ0 w0 listed ρ a w → wpAny P .any ops Q fuel listed a w := by
  have done : ∀ (listed : Array Bool) (ρ : Val) (a : Act) (w : World), DInv ops R ρ0 w0 listed ρ a w → (∀ k, k < ops.size → inD listed k = true) → Q .normal a w := by
    intro listed ρ a w hI hall
    have hlk : lookD R (inD listed) ops.size = (R ops.size).st.look := funext fun n => lookD_done hE hcall hR hwf (Nat.le_refl _) fun j hj _ => hall j hj
    have hrep := hI.rep
    have hst := hI.step
    rw [hlk] at hrep hst
    have frn : ∀ k, k ≤ ops.size → (R k).fr.n = (R 0).fr.n := by
      intro k
      induction k with
      | zero => intro _; rfl
      | succ k ih =>
        intro hk
        have hp := (hR k _ (Array.getElem?_eq_getElem (show k < ops.size by omega))).put
        rw [← ih (by omega)]
        cases hd : ops[k].dst with
        | none => rw [hd] at hp; rw [putS_none hp]
        | some d => rw [hd] at hp; exact (set_spec (putS_some hp)).2.1
    refine hQ ρ a w ⟨by rw [hI.tsize, frn _ (Nat.le_refl _)], fun t s hs => ?_, hI.defers⟩ hrep hst
    rcases fr_get hR (Nat.le_refl _) hs with ⟨j, o, h1, h2, h3, rfl⟩ | ⟨h1, h2⟩
    · exact hI.vals j o t h2 (hall j h1) h3
    · exact hI.keep t s (fun j o hj _ => h1 j o (Array.getElem?_eq_some_iff.1 hj).1 hj) h2
  intro fuel
  induction fuel with
  | zero =>
    intro listed ρ a w hc hI
    have hall : ∀ k, k < ops.size → inD listed k = true := by
      intro k hk
      have hks : k < listed.size := by rw [hI.closed.size]; exact hk
      cases hv : listed.getD k false with
      | true => exact hv
      | false =>
        have := count_set listed k (by rw [getD_tf hks]; exact hv)
        omega
    refine ⟨List.eq_nil_iff_forall_not_mem.2 fun i hi => ?_, done listed ρ a w hI hall⟩
    have h1 := (mem_ready.1 hi).1
    have h2 := lt_of_unlisted h1
    have := hall i (by rw [← hI.closed.size]; exact h2)
    rw [inD, ← getD_tf h2, h1] at this
    cases this
  | succ fuel ih =>
    intro listed ρ a w hc hI
    refine ⟨fun hr => ?_, fun i hi => ?_⟩
    · refine done listed ρ a w hI fun k => ?_
      induction k using Nat.strongRecOn with
      | _ k ihk =>
        intro hk
        cases hv : listed.getD k false with
        | true => exact hv
        | false =>
          exfalso
          have ho := Array.getElem?_eq_getElem hk
          have hks : k < listed.size := by rw [hI.closed.size]; exact hk
          have : k ∈ Region.ready .any ops listed := mem_ready.2 ⟨by rw [getD_tf hks]; exact hv, _, ho, fun e he hb => by
            have hlt := hB.down k _ ho e he hb
            exact ihk e.on hlt (by omega)⟩
          rw [hr] at this
          cases this
    · obtain ⟨hun, o, ho, hdeps⟩ := mem_ready.1 hi
      have hin : i < listed.size := lt_of_unlisted hun
      refine dinv_op hE hcall hR hacc hwf hB hlate hI ⟨ho, by rw [inD, ← getD_tf hin]; exact hun, hdeps⟩ fun ρ' a' w' hI' => ?_
      refine ih _ ρ' a' w' ?_ hI'
      have := count_set listed i hun
      omega

theorem draw_run [Fam] {P : Program} {E : Env} (hE : EnvOk P E) {call : CallF} (hcall : CallOk P call) {ops : Array Oper} {sup : List Tch} {fr : Fr} {st : St} {p : Fr × St × List Tch} (h : opsD E call ops.toList (Region.before ops).toList sup ops.toList 0 fr st [] = some p)
    (hrel : relB ops.toList fr.n = true) (hl : lateOk (Region.before ops).toList sup p.2.2 = true) (id : Nat) :
    Sta st p.2.1 ∧ p.1.n = fr.n ∧ ∀ {ρ : Val} {w : World} {a : Act}, Rep ρ st.look w → Wf st → Free ρ st.next p.2.1.next → FrOk ρ fr a → ∀ {Q : Exit → Act → World → Prop},
      (∀ ρ' a' w', FrOk ρ' p.1 a' → Rep ρ' p.2.1.look w' → Step st.next p.2.1.next ρ st.look w ρ' p.2.1.look w' → Q .normal a' w') → (Code.region id ops true).wp P Q a w := by
  obtain ⟨R, h1, h2, h3, h4, h5⟩ := trace_of h
  have hR : ∀ (k : Nat) (o : Oper), ops[k]? = some o → StepD E call ops (Region.before ops).toList sup k o (R k) (R (k + 1)) := fun k o hk => by
    have := h5 k o (by simpa using hk)
    rw [Nat.zero_add] at this
    exact this
  have e : 0 + ops.toList.length = ops.size := by simp
  rw [e] at h4
  subst h4
  simp only at *
  subst h1 h2
  have frn : ∀ k, k ≤ ops.size → (R k).fr.n = (R 0).fr.n := by
    intro k
    induction k with
    | zero => intro _; rfl
    | succ k ih =>
      intro hk
      have hp := (hR k _ (Array.getElem?_eq_getElem (show k < ops.size by omega))).put
      rw [← ih (by omega)]
      cases hd : ops[k].dst with
      | none => rw [hd] at hp; rw [putS_none hp]
      | some d => rw [hd] at hp; exact (set_spec (putS_some hp)).2.1
  refine ⟨staTo hE hcall hR (Nat.le_refl _) (Nat.zero_le _), frn _ (Nat.le_refl _), fun {ρ w a} hr hwf hf hfr Q hQ => ?_⟩
  have hB := relB_spec hrel
  have none : ∀ k, inD (Array.replicate ops.size false) k = true → False := fun k hk => by
    unfold inD at hk
    rw [Array.getD_eq_getD_getElem?, Array.getElem?_replicate] at hk
    split at hk <;> cases hk
  have hlk : lookD R (inD (Array.replicate ops.size false)) ops.size = (R 0).st.look := funext fun n => by
    rw [lookD_skip (m := 0) (Nat.zero_le _) fun i _ _ hd => (none i hd).elim]
    rfl
  have hr' : Rep ρ (R 0).st.look { w with drawn := w.drawn + 1 } := hr.draw _
  refine wp_region_any hE.mixed (dinv_wp hE hcall hR h3 hwf hB hl (ρ0 := ρ) (w0 := { w with drawn := w.drawn + 1 }) (fun ρ' a' w' k1 k2 k3 => ?_) ops.size _ ρ a _ (by simp) ⟨⟨by simp, fun j o hj hd => (none j hd).elim⟩, by rw [hlk]; exact hr', by
    rw [hlk]
    exact (Step.refl (R 0).st.next ρ _ _).wide (Nat.le_refl _) (staTo hE hcall hR (Nat.le_refl _) (Nat.zero_le _)).next, fun j hj _ => ?_, hfr.size, hfr.defers, fun t s _ hs => hfr.get t s hs, fun j o d hj hd => (none j hd).elim⟩)
  · exact hQ ρ' a' w' k1 k2 (((Step.drawn (R 0).st.next ρ _ w _).wide (Nat.le_refl _) (staTo hE hcall hR (Nat.le_refl _) (Nat.zero_le _)).next).trans' k3)
  · exact hf.mono (staTo hE hcall hR (show j ≤ ops.size by omega) (Nat.zero_le _)).next (next_mono hE hcall hR hj (Nat.le_refl _))

theorem drawS_ok [Fam] {P : Program} {E : Env} (hE : EnvOk P E) {call : CallF} (hcall : CallOk P call) {ops : Array Oper} {fr : Fr} {st : St} {r : Ex × Fr × St} (h : drawS E call ops.toList (Region.before ops).toList fr st = some r) (id : Nat) :
    r.1 = .normal ∧ Sta st r.2.2 ∧ r.2.1.n = fr.n ∧ ∀ {ρ : Val} {w : World} {a : Act}, Rep ρ st.look w → Wf st → Free ρ st.next r.2.2.next → FrOk ρ fr a → ∀ {Q : Exit → Act → World → Prop},
      (∀ ρ' a' w', FrOk ρ' r.2.1 a' → Rep ρ' r.2.2.look w' → Step st.next r.2.2.next ρ st.look w ρ' r.2.2.look w' → Q .normal a' w') → (Code.region id ops true).wp P Q a w := by
  unfold drawS at h
  rw [whn_some, bnd_some] at h
  obtain ⟨hrel, p, h1, h2⟩ := h
  cases hl : lateOk (Region.before ops).toList [] p.2.2 with
  | true =>
    rw [hl] at h2
    have h2 : some (Ex.normal, p.1, p.2.1) = some r := h2
    cases h2
    exact ⟨rfl, draw_run hE hcall h1 hrel hl id⟩
  | false =>
    rw [hl] at h2
    have h2 : drawAgain E call ops.toList (Region.before ops).toList fr st p.2.2 = some r := h2
    unfold drawAgain at h2
    rw [bnd_some] at h2
    obtain ⟨p', h3, h4⟩ := h2
    rw [whn_some] at h4
    obtain ⟨h5, h6⟩ := h4
    cases h6
    exact ⟨rfl, draw_run hE hcall h3 hrel h5 id⟩
end Ev
/-
  Code, calls, and the whole evaluator.
-/
namespace Ev
open Go Go.RowKit

def toExit : Ex → Exit
  | .normal => .normal
  | .exit id => .exit id
  | .ret => .ret

/-- a loop, at the head of a round -/
def LoopWp (P : Program) (c : Code) (Q : Exit → Act → World → Prop) (a : Act) (w : World) : Prop :=
  ∀ (b : Frame) (k : List Item) (cs : List Frame), ∃ e a' w', Q e a' w' ∧ Arrives P (lone (b.at a (.code c :: .inLoop c :: k)) cs w) b k cs e a' w'
theorem LoopWp.wp {P : Program} {c : Code} {Q : Exit → Act → World → Prop} {a : Act} {w : World} (h : LoopWp P c Q a w) : (Code.loop c).wp P Q a w := fun b k cs =>
  let ⟨e, a', w', hq, harr⟩ := h b k cs
  ⟨e, a', w', hq, .of_steps (.one step_loop) harr⟩
theorem LoopWp.round {P : Program} {c : Code} {Q : Exit → Act → World → Prop} {a : Act} {w : World} (h : c.wp P (Exit.then (LoopWp P c Q) Q) a w) : LoopWp P c Q a w := by
  intro b k cs
  obtain ⟨e, a₁, w₁, hq, harr⟩ := h b (.inLoop c :: k) cs
  cases e with
  | normal =>
    obtain ⟨e₂, a₂, w₂, hq₂, harr₂⟩ := hq b k cs
    exact ⟨e₂, a₂, w₂, hq₂, .of_steps (Steps.trans harr (.one step_inLoop)) harr₂⟩
  | exit id => exact ⟨_, a₁, w₁, hq, .pass (x := .inLoop c) rfl (fun _ _ => .inl (by simp)) harr⟩
  | goto l => exact ⟨_, a₁, w₁, hq, .pass (x := .inLoop c) rfl (fun _ _ => .inl (by simp)) harr⟩
  | ret => exact ⟨_, a₁, w₁, hq, .pass (x := .inLoop c) rfl (fun _ _ => .inl (by simp)) harr⟩
  | panic ch => exact ⟨_, a₁, w₁, hq, .pass (x := .inLoop c) rfl (fun _ _ => .inl (by simp)) harr⟩
  | outgrown => exact ⟨_, a₁, w₁, hq, .pass (x := .inLoop c) rfl (fun _ _ => .inl (by simp)) harr⟩
def WP (P : Program) (c : Code) (Q : Exit → Act → World → Prop) (a : Act) (w : World) : Prop :=
  match c with
  | .loop c => LoopWp P c Q a w
  | c => c.wp P Q a w
theorem WP.wp {P : Program} {c : Code} {Q : Exit → Act → World → Prop} {a : Act} {w : World} (h : WP P c Q a w) : c.wp P Q a w := by
  cases c with
  | loop c => exact LoopWp.wp h
  | _ => exact h

/-- what a piece of code does -/
def Does [Fam] (P : Program) (c : Code) (fr : Fr) (st : St) (r : Ex × Fr × St) : Prop :=
  Sta st r.2.2 ∧ r.2.1.n = fr.n ∧ ∀ {ρ : Val} {w : World} {a : Act}, Rep ρ st.look w → Wf st → Free ρ st.next r.2.2.next → FrOk ρ fr a → ∀ {Q : Exit → Act → World → Prop},
    (∀ ρ' a' w', FrOk ρ' r.2.1 a' → Rep ρ' r.2.2.look w' → Step st.next r.2.2.next ρ st.look w ρ' r.2.2.look w' → Q (toExit r.1) a' w') → WP P c Q a w
def CodeOk [Fam] (P : Program) (code : Code → Fr → St → M (Ex × Fr × St)) : Prop := ∀ c fr st r, code c fr st = some r → Does P c fr st r
/-- what a call of f does -/
def CallAt [Fam] (P : Program) (f : FuncId) (x : List SVal → St → M (SVal × St)) : Prop :=
  ∀ args st s st', x args st = some (s, st') → Sta st st' ∧ ∀ {ρ : Val} {w : World}, Rep ρ st.look w → Wf st → Free ρ st.next st'.next → ∀ {vs : List Value}, denL ρ args = some vs →
    Call1 P f vs.toArray w fun v w' => ∃ ρ', Good st st' s ρ w ρ' v w'
def ExtOk [Fam] (P : Program) (ext : FuncId → Option (List SVal → St → M (SVal × St))) : Prop := ∀ f x, ext f = some x → CallAt P f x

theorem Does.refl [Fam] {P : Program} {c : Code} {fr : Fr} {st : St} {ex : Ex} (h : ∀ {Q : Exit → Act → World → Prop} {a : Act} {w : World}, Q (toExit ex) a w → WP P c Q a w) : Does P c fr st (ex, fr, st) :=
  ⟨Sta.refl _, rfl, fun {ρ w a} hr _ _ hf _ hq => h (hq ρ a w hf hr (Step.refl _ _ _ _))⟩
/-- one piece behind the other -/
theorem Does.then [Fam] {P : Program} {x y : Code} {fr : Fr} {st : St} {r1 r2 : Ex × Fr × St} (h1 : Does P x fr st r1) (he : r1.1 = .normal) (h2 : Does P y r1.2.1 r1.2.2 r2) {z : Code}
    (h : ∀ {Q : Exit → Act → World → Prop} {a : Act} {w : World}, x.wp P (Exit.then (WP P y Q) Q) a w → WP P z Q a w) : Does P z fr st r2 := by
  obtain ⟨a1, a2, a3⟩ := h1
  obtain ⟨b1, b2, b3⟩ := h2
  refine ⟨a1.trans b1, b2.trans a2, fun {ρ w a} hr hwf hf hfr Q hq => h (a3 hr hwf (hf.mono (Nat.le_refl _) b1.next) hfr fun ρ' a' w' c1 c2 c3 => ?_).wp⟩
  rw [he]
  exact b3 c2 (hwf.sta a1) (hf.step c3 a1.next) c1 fun ρ2 a2 w2 d1 d2 d3 => hq ρ2 a2 w2 d1 d2 (c3.trans d3 a1.next b1.next)
/-- it ends otherwise -/
theorem Does.leave [Fam] {P : Program} {x : Code} {fr : Fr} {st : St} {r : Ex × Fr × St} (h1 : Does P x fr st r) (he : r.1 ≠ .normal) {z : Code} {K : (Exit → Act → World → Prop) → Act → World → Prop}
    (h : ∀ {Q : Exit → Act → World → Prop} {a : Act} {w : World}, x.wp P (Exit.then (K Q) Q) a w → WP P z Q a w) : Does P z fr st r := by
  obtain ⟨a1, a2, a3⟩ := h1
  refine ⟨a1, a2, fun {ρ w a} hr hwf hf hfr Q hq => h (a3 hr hwf hf hfr fun ρ' a' w' c1 c2 c3 => ?_).wp⟩
  have := hq ρ' a' w' c1 c2 c3
  cases hx : r.1 with
  | normal => exact absurd hx he
  | exit id => rw [hx] at this; exact this
  | ret => rw [hx] at this; exact this


theorem codeStep_ok [Fam] {P : Program} {E : Env} (hE : EnvOk P E) {ih : Rec} (hcode : CodeOk P ih.code) (hcall : CallOk P ih.call) {c : Code} {fr : Fr} {st : St} {r : Ex × Fr × St} (h : codeStep c E ih fr st = some r) : Does P c fr st r := by
  cases c with
  | skip =>
    have h : some (Ex.normal, fr, st) = some r := h
    cases h
    exact Does.refl fun h => wp_skip h
  | label l =>
    have h : some (Ex.normal, fr, st) = some r := h
    cases h
    exact Does.refl fun h => wp_label h
  | exit id =>
    have h : some (Ex.exit id, fr, st) = some r := h
    cases h
    exact Does.refl fun h => wp_exit h
  | ret =>
    have h : some (Ex.ret, fr, st) = some r := h
    cases h
    exact Does.refl fun h => wp_ret h
  | goto l => cases h
  | refuse w => cases h
  | rangeFunc f ps x y => cases h
  | region id ops draw =>
    have h : cRegion id ops draw E ih fr st = some r := h
    unfold cRegion at h
    cases draw with
    | false =>
      have h : bnd (opsS E ih.call ops.toList ops.toList fr st) (fun p => some (Ex.normal, p.1, p.2)) = some r := h
      rw [bnd_some] at h
      obtain ⟨p, h1, h2⟩ := h
      cases h2
      obtain ⟨h3, h4, h5⟩ := opsS_ok hE hcall h1
      exact ⟨h3, h4, fun {ρ w a} hr hwf hf hfr Q hq => wp_region_list (h5 hr hwf hf hfr hq)⟩
    | true =>
      obtain ⟨h1, h2, h3, h4⟩ := drawS_ok hE hcall h id
      refine ⟨h2, h3, fun {ρ w a} hr hwf hf hfr Q hq => h4 hr hwf hf hfr fun ρ' a' w' c1 c2 c3 => ?_⟩
      have := hq ρ' a' w' c1 c2 c3
      rw [h1] at this
      exact this
  | seq x y =>
    have h : bnd (ih.code x fr st) (onNormal (ih.code y)) = some r := h
    rw [bnd_some] at h
    obtain ⟨r1, h1, h2⟩ := h
    have d1 := hcode _ _ _ _ h1
    cases he : r1.1 with
    | normal =>
      have h2 : ih.code y r1.2.1 r1.2.2 = some r := by unfold onNormal at h2; rw [he] at h2; exact h2
      exact d1.then he (hcode _ _ _ _ h2) fun h => wp_seq (wp_mono h fun e a w hq => by cases e <;> first | exact WP.wp hq | exact hq)
    | exit id =>
      have h2 : some r1 = some r := by unfold onNormal at h2; rw [he] at h2; exact h2
      cases h2
      exact d1.leave (by rw [he]; simp) (K := fun Q => y.wp P Q) fun h => wp_seq h
    | ret =>
      have h2 : some r1 = some r := by unfold onNormal at h2; rw [he] at h2; exact h2
      cases h2
      exact d1.leave (by rw [he]; simp) (K := fun Q => y.wp P Q) fun h => wp_seq h
  | cond c x y =>
    have h : bnd (evS fr c) (fun v => bnd (asB v) fun t => ih.code (@Bool.rec (fun _ => Code) y x t) fr st) = some r := h
    rw [bnd_some] at h
    obtain ⟨v, h1, h⟩ := h
    rw [bnd_some] at h
    obtain ⟨t, h2, h3⟩ := h
    obtain ⟨a1, a2, a3⟩ := hcode _ _ _ _ h3
    refine ⟨a1, a2, fun {ρ w a} hr hwf hf hfr Q hq => ?_⟩
    have hc := asB_den h2 (hfr.eval c v h1)
    refine wp_cond hc ?_
    have := (a3 hr hwf hf hfr hq).wp
    cases t <;> exact this
  | block id x =>
    have h : bnd (ih.code x fr st) (onExit id) = some r := h
    rw [bnd_some] at h
    obtain ⟨r1, h1, h2⟩ := h
    obtain ⟨a1, a2, a3⟩ := hcode _ _ _ _ h1
    unfold onExit at h2
    cases he : r1.1 with
    | normal =>
      rw [he] at h2
      have h2 : some r1 = some r := h2
      cases h2
      refine ⟨a1, a2, fun {ρ w a} hr hwf hf hfr Q hq => wp_block (a3 hr hwf hf hfr fun ρ' a' w' c1 c2 c3 => ?_).wp⟩
      have := hq ρ' a' w' c1 c2 c3
      rw [he] at this ⊢
      exact this
    | ret =>
      rw [he] at h2
      have h2 : some r1 = some r := h2
      cases h2
      refine ⟨a1, a2, fun {ρ w a} hr hwf hf hfr Q hq => wp_block (a3 hr hwf hf hfr fun ρ' a' w' c1 c2 c3 => ?_).wp⟩
      have := hq ρ' a' w' c1 c2 c3
      rw [he] at this ⊢
      exact this
    | exit j =>
      rw [he] at h2
      have h2 : @Bool.rec (fun _ => M (Ex × Fr × St)) (some r1) (some (.normal, r1.2.1, r1.2.2)) (Nat.beq j id) = some r := h2
      cases hb : Nat.beq j id with
      | true =>
        rw [hb] at h2
        have h2 : some (Ex.normal, r1.2.1, r1.2.2) = some r := h2
        cases h2
        refine ⟨a1, a2, fun {ρ w a} hr hwf hf hfr Q hq => wp_block (a3 hr hwf hf hfr fun ρ' a' w' c1 c2 c3 => ?_).wp⟩
        have := hq ρ' a' w' c1 c2 c3
        rw [he]
        show (if j = id then Q .normal a' w' else _)
        rw [if_pos (beq_true hb)]
        exact this
      | false =>
        rw [hb] at h2
        have h2 : some r1 = some r := h2
        cases h2
        refine ⟨a1, a2, fun {ρ w a} hr hwf hf hfr Q hq => wp_block (a3 hr hwf hf hfr fun ρ' a' w' c1 c2 c3 => ?_).wp⟩
        have := hq ρ' a' w' c1 c2 c3
        rw [he] at this ⊢
        show (if j = id then _ else Q (.exit j) a' w')
        rw [if_neg (beq_false hb)]
        exact this
  | loop x =>
    have h : bnd (ih.code x fr st) (onNormal (ih.code (.loop x))) = some r := h
    rw [bnd_some] at h
    obtain ⟨r1, h1, h2⟩ := h
    have d1 := hcode _ _ _ _ h1
    cases he : r1.1 with
    | normal =>
      have h2 : ih.code (.loop x) r1.2.1 r1.2.2 = some r := by unfold onNormal at h2; rw [he] at h2; exact h2
      exact d1.then he (hcode _ _ _ _ h2) fun h => LoopWp.round h
    | exit id =>
      have h2 : some r1 = some r := by unfold onNormal at h2; rw [he] at h2; exact h2
      cases h2
      exact d1.leave (by rw [he]; simp) (K := fun Q => LoopWp P x Q) fun h => LoopWp.round h
    | ret =>
      have h2 : some r1 = some r := by unfold onNormal at h2; rw [he] at h2; exact h2
      cases h2
      exact d1.leave (by rw [he]; simp) (K := fun Q => LoopWp P x Q) fun h => LoopWp.round h
  | scope x =>
    have h : ih.code x fr st = some r := h
    obtain ⟨a1, a2, a3⟩ := hcode _ _ _ _ h
    refine ⟨a1, a2, fun {ρ w a} hr hwf hf hfr Q hq => wp_scope_straight (a3 hr hwf hf hfr fun ρ' a' w' c1 c2 c3 => ?_).wp⟩
    have := hq ρ' a' w' c1 c2 c3
    cases hx : r.1 <;> (rw [hx] at this; exact this)

def resOf (tmps : Array Value) : ResultVar → Sem Value
  | .tmp t => pure (tmps.getD t undef)
  | .cell b t => do loadVar t (← asAddr (tmps.getD b undef))
theorem results_eq (fn : Func) (tmps : Array Value) : results fn tmps = (do
    let vs ← fn.results.mapM (resOf tmps)
    pure (if h : vs.size = 1 then vs[0] else .tuple vs) : Sem Value) := by
  unfold results
  refine congrArg (fun f => (fn.results.mapM f >>= fun vs => pure (if h : vs.size = 1 then vs[0] else .tuple vs) : Sem Value)) (funext fun x => ?_)
  cases x <;> rfl
theorem res1_ok [Fam] {P : Program} {E : Env} (hE : EnvOk P E) {fr : Fr} {st : St} {x : ResultVar} {s : SVal} (h : res1 E fr st x = some s) {ρ : Val} {w : World} {a : Act} (hr : Rep ρ st.look w) (hf : FrOk ρ fr a) :
    ∃ v, den ρ s = some v ∧ (resOf a.tmps x).run P w = .ok v w := by
  cases x with
  | tmp t =>
    have h : fr.get t = some s := h
    obtain ⟨v, h1, h2⟩ := hf.get t s h
    exact ⟨v, h2, by simp [resOf, Array.getD_eq_getD_getElem?, h1]⟩
  | cell b t =>
    have h : bnd (fr.get b) (fun v => bnd (asPtr v) fun p => loadV E st t p.1 p.2) = some s := h
    rw [bnd_some] at h
    obtain ⟨u, h1, h⟩ := h
    rw [bnd_some] at h
    obtain ⟨p, h2, h3⟩ := h
    obtain ⟨v, h4, h5⟩ := hf.get b u h1
    obtain ⟨l, h6, rfl⟩ := asPtr_den h2 h5
    obtain ⟨l', v, h7, h8, h9⟩ := loadV_spec (P := P) hE hr h3
    rw [h6] at h7
    cases h7
    refine ⟨v, h8, ?_⟩
    simp only [resOf, Array.getD_eq_getD_getElem?, h4, Option.getD_some, asAddr, Sem.run_bind, Sem.run_pure, Result.andThen_ok, h9]
theorem resS_ok [Fam] {P : Program} {E : Env} (hE : EnvOk P E) {fr : Fr} {st : St} {ρ : Val} {w : World} {a : Act} (hr : Rep ρ st.look w) (hf : FrOk ρ fr a) : ∀ {l : List ResultVar} {ss : List SVal}, resS E fr st l = some ss →
    ∃ vs, denL ρ ss = some vs ∧ (l.mapM (resOf a.tmps)).run P w = .ok vs w
  | [], ss, h => by cases h; exact ⟨[], rfl, rfl⟩
  | x :: l, ss, h => by
    have h : bnd (res1 E fr st x) (fun v => bnd (resS E fr st l) fun l => some (v :: l)) = some ss := h
    rw [bnd_some] at h
    obtain ⟨s, h1, h⟩ := h
    rw [bnd_some] at h
    obtain ⟨ss', h2, h3⟩ := h
    cases h3
    obtain ⟨v, h4, h5⟩ := res1_ok hE h1 hr hf
    obtain ⟨vs, h6, h7⟩ := resS_ok hE hr hf h2
    refine ⟨v :: vs, denL_cons.2 ⟨_, _, h4, h6, rfl⟩, ?_⟩
    rw [List.mapM_cons]
    simp only [Sem.run_bind, Result.andThen_ok, h5, h7, Sem.run_pure]
theorem resV_den {ρ : Val} {ss : List SVal} {vs : List Value} (h : denL ρ ss = some vs) : den ρ (resV ss) = some (if h : vs.toArray.size = 1 then vs.toArray[0] else .tuple vs.toArray) := by
  match ss, h with
  | [], h => rw [denL_nil] at h; subst h; rfl
  | [s], h =>
    obtain ⟨v, l, h1, h2, rfl⟩ := denL_cons.1 h
    rw [denL_nil] at h2
    subst h2
    exact h1
  | s :: s2 :: r, h =>
    obtain ⟨v, l, h1, h2, rfl⟩ := denL_cons.1 h
    obtain ⟨v2, l2, h3, h4, rfl⟩ := denL_cons.1 h2
    have : ¬ ((v :: v2 :: l2).toArray.size = 1) := by simp
    rw [dif_neg this]
    simp [resV, den, h]

theorem call1_enter {P : Program} {f : FuncId} {fn : Func} {body : Code} (hf : P.funcs[f]? = some fn) (hn : (fn.name == "runtime.NumGoroutine") = false) (hb : fn.body = some body) {args : Array Value} {w : World} {R : Value → World → Prop}
    (h : Calls P f args w fun e w' => ∃ v, e = .returned v ∧ R v w') : Call1 P f args w R := by
  intro o a next Q hk
  have hrun : (callFunc f args).run P w = .ok (.enter f args) w := by
    simp only [callFunc, Sem.run_bind, run_program, Result.andThen_ok, hf, hn, hb]
    rfl
  rw [hrun, Oper.upon_enter]
  refine h.mono fun e w' ⟨v, he, hr⟩ => ?_
  subst he
  exact hk v w' hr

theorem callFn_calls [Fam] {P : Program} {E : Env} (hE : EnvOk P E) {ih : Rec} (hcode : CodeOk P ih.code) {f : FuncId} {fn : Func} (hf : E.funcs.get f = some fn) {args : List SVal} {st st' : St} {s : SVal} (h : callFn E ih fn args st = some (s, st')) :
    Sta st st' ∧ ∀ {ρ : Val} {w : World}, Rep ρ st.look w → Wf st → Free ρ st.next st'.next → ∀ {vs : List Value}, denL ρ args = some vs →
      Calls P f vs.toArray w fun e w' => ∃ v, e = .returned v ∧ ∃ ρ', Good st st' s ρ w ρ' v w' := by
  unfold callFn at h
  rw [bnd_some] at h
  obtain ⟨body, h1, h⟩ := h
  rw [bnd_some] at h
  obtain ⟨fr, h2, h⟩ := h
  rw [bnd_some] at h
  obtain ⟨p, h3, h⟩ := h
  rw [whn_some, bnd_some] at h
  obtain ⟨h4, ss, h5, h6⟩ := h
  cases h6
  obtain ⟨a1, a2, a3⟩ := hcode _ _ _ _ h3
  obtain ⟨g1, g2⟩ := hE.funcs f fn hf
  refine ⟨a1, fun {ρ w} hr hwf hfree vs hd => calls_of_wp g1 h1 (a3 hr hwf hfree (a := { tmps := vs.toArray ++ Array.replicate (fn.ntmps - vs.toArray.size) undef, defers := [] }) ?_ fun ρ' a' w' c1 c2 c3 => ?_).wp⟩
  · have hl := denL_length hd
    refine ⟨by simp [hl], fun t s ht => ?_, rfl⟩
    have := T.lay_spec h2 t
    rw [show Fr.get ⟨Nat.add args.length (Nat.sub fn.ntmps args.length), fr⟩ t = fr.get t from rfl] at ht
    rw [ht] at this
    split at this
    · rename_i hlt
      obtain ⟨v, h7, h8⟩ := denL_get hd (show args[t]? = some s by rw [this]; congr 1)
      refine ⟨v, ?_, h8⟩
      have : t < vs.length := by omega
      rw [Array.getElem?_append_left (by simpa using this)]
      simpa using h7
    · cases this
  · obtain ⟨rs, h7, h8⟩ := resS_ok (P := P) hE c2 c1 h5
    have hres : (results fn a'.tmps).run P w' = .ok (if h : rs.toArray.size = 1 then rs.toArray[0] else .tuple rs.toArray) w' := by
      rw [results_eq, Array.mapM_eq_mapM_toList, Sem.run_bind]
      simp only [Sem.run_map, h8, Result.andThen_ok, Sem.run_pure]
    have fin : a'.defers = [] ∧ ∃ v, (results fn a'.tmps).run P w' = .ok v w' ∧ ∃ v', Ending.returned v = .returned v' ∧ ∃ ρ', Good st p.2.2 (resV ss) ρ w ρ' v' w' :=
      ⟨c1.defers, _, hres, _, rfl, ρ', ⟨resV_den h7, c2, c3⟩⟩
    cases he : p.1 with
    | normal => exact fin
    | ret => exact fin
    | exit id => rw [he] at h4; cases h4

theorem callFn_ok [Fam] {P : Program} {E : Env} (hE : EnvOk P E) {ih : Rec} (hcode : CodeOk P ih.code) {f : FuncId} {fn : Func} (hf : E.funcs.get f = some fn) : CallAt P f (callFn E ih fn) := by
  intro args st s st' h
  obtain ⟨h1, h2⟩ := callFn_calls hE hcode hf h
  obtain ⟨g1, g2⟩ := hE.funcs f fn hf
  have hb : ∃ body, fn.body = some body := by
    unfold callFn at h
    rw [bnd_some] at h
    obtain ⟨body, hb, _⟩ := h
    exact ⟨body, hb⟩
  obtain ⟨body, hb⟩ := hb
  exact ⟨h1, fun hr hwf hfree vs hd => call1_enter g1 g2 hb (h2 hr hwf hfree hd)⟩

theorem callStep_ok [Fam] {P : Program} {E : Env} (hE : EnvOk P E) {ext : FuncId → Option (List SVal → St → M (SVal × St))} (hext : ExtOk P ext) {ih : Rec} (hcode : CodeOk P ih.code) : CallOk P (callStep E ext ih) := by
  intro f args st s st' h
  have body : bnd (E.funcs.get f) (fun fn => callFn E ih fn args st) = some (s, st') → Sta st st' ∧ ∀ {ρ : Val} {w : World}, Rep ρ st.look w → Wf st → Free ρ st.next st'.next → ∀ {vs : List Value}, denL ρ args = some vs →
      Call1 P f vs.toArray w fun v w' => ∃ ρ', Good st st' s ρ w ρ' v w' := fun h => by
    rw [bnd_some] at h
    obtain ⟨fn, h1, h2⟩ := h
    exact callFn_ok hE hcode h1 args st s st' h2
  unfold callStep at h
  cases he : ext f with
  | some x =>
    rw [he] at h
    cases hx : x args st with
    | some r => simp only [hx] at h; cases h; exact hext f x he args st s st' hx
    | none => simp only [hx] at h; exact body h
  | none => rw [he] at h; exact body h
theorem run_ok [Fam] {P : Program} {E : Env} (hE : EnvOk P E) {ext : FuncId → Option (List SVal → St → M (SVal × St))} (hext : ExtOk P ext) : ∀ n, CodeOk P (run E ext n).code ∧ CallOk P (run E ext n).call
  | 0 => ⟨fun c fr st r h => (by cases h), fun f args st s st' h => (by cases h)⟩
  | n + 1 => by
    obtain ⟨h1, h2⟩ := run_ok hE hext n
    exact ⟨fun c fr st r h => codeStep_ok hE h1 h2 h, callStep_ok hE hext h1⟩
end Ev
