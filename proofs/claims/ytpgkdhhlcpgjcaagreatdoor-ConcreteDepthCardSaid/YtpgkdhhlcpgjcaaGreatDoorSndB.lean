import Derived.Test.YtpgkdhhlcpgjcaaGreatDoorSndA
import Derived.MapKept
import Derived.Great.BuildSlice
import Derived.Deep.AppendSrc
import Derived.Laws.AppendOwn
import Derived.Lib.AppendZerosOnto
/-
  Addresses, slices, conversions.
-/
namespace Ev
open Go Go.RowKit

theorem toList_size (a : ByteArray) : a.toList.length = a.size := by rw [ByteArray.toList_eq]; rfl


theorem unS_ok [Fam] {P : Program} {op : UnOp} {x s : SVal} (h : unS op x = some s) {ρ : Val} {u : Value} (hx : den ρ x = some u) : ∃ r, den ρ s = some r ∧ ∀ w, (Op.unary op u).run P w = .ok r w := by
  unfold unS at h
  split at h
  · cases h; cases hx; exact ⟨_, rfl, fun w => by simp [Op.unary, Op.intArith, wrapF_eq]⟩
  · cases h; cases hx; exact ⟨_, rfl, fun w => by simp [Op.unary]⟩
  · cases h

theorem fieldAddr_ok {P : Program} {E : Env} (hE : EnvOk P E) {t : TypeId} {f : Nat} {fd : Field} (h : fieldT E t f = some fd) {x : SVal} {p : Nat × Nat} (hp : asPtr x = some p) {n : Nat} (hn : sizeT E fd.type = some n) (h1 : Nat.ble 1 n = true) {ρ : Val} {u : Value}
    (hx : den ρ x = some u) : ∃ r, den ρ (.ptr p.1 (Nat.add p.2 fd.offset)) = some r ∧ ∀ w, (Instr.fieldAt t u f).run P w = .ok r w := by
  obtain ⟨fs, h2, h3⟩ := fieldT_spec hE h
  obtain ⟨l, h4, rfl⟩ := asPtr_den hp hx
  obtain ⟨i, _, rfl, hs⟩ := sizeT_spec hE hn
  have h1 := ble_true h1
  have h0 : ¬ (i.size = 0) := by omega
  refine ⟨.pointer (some ⟨l.blk, l.base + (p.2 + fd.offset), none⟩), by simp [den, h4], fun w => ?_⟩
  simp only [Instr.fieldAt, Sem.run_bind, run_underlying h2, Result.andThen_ok, h3, Instr.sureAddr, Sem.run_pure, fieldPlace, hs, h0, if_false, add_addr, Nat.add_assoc]

theorem field_ok {P : Program} {E : Env} (hE : EnvOk P E) {t : TypeId} {f : Nat} {fd : Field} (h : fieldT E t f = some fd) {x s : SVal} {l : List SVal} (hl : asAggS x = some l) (hp : partS E fd.type l fd.offset = some s) {ρ : Val} {u : Value}
    (hx : den ρ x = some u) : ∃ r, den ρ s = some r ∧ ∀ w, (Instr.field t u f).run P w = .ok r w := by
  obtain ⟨fs, h2, h3⟩ := fieldT_spec hE h
  obtain ⟨vs, h4, rfl⟩ := asAggS_den hl hx
  obtain ⟨v, h5, h6⟩ := partS_spec hE hp h4
  refine ⟨v, h5, fun w => ?_⟩
  simp only [Instr.field, Sem.run_bind, run_underlying h2, Result.andThen_ok, h3, asAgg, Sem.run_pure, h6]

theorem load_ok [Fam] {P : Program} {E : Env} (hE : EnvOk P E) {t : TypeId} {st : St} {ρ : Val} {w : World} (hr : Rep ρ st.look w) {x s : SVal} {p : Nat × Nat} (hp : asPtr x = some p) (h : loadV E st t p.1 p.2 = some s) {u : Value} (hx : den ρ x = some u) :
    ∃ r, den ρ s = some r ∧ (Instr.loadAt t u).run P w = .ok r w := by
  obtain ⟨l, h4, rfl⟩ := asPtr_den hp hx
  obtain ⟨l', v, h5, h6, h7⟩ := loadV_spec hE hr h
  rw [h4] at h5
  cases h5
  exact ⟨v, h6, by simp only [Instr.loadAt, Sem.run_bind, Instr.sureAddr, Sem.run_pure, Result.andThen_ok, h7]⟩

theorem nilCheck_ok {P : Program} {x s : SVal} (h : nilOk x = some s) {ρ : Val} {u : Value} (hx : den ρ x = some u) (e : Operand → Value) {o : Oper} {y : Operand} (ho : o.op = .nilCheck y) (hy : e y = u) (w : World) :
    den ρ s = some u ∧ (execOp e o).run P w = .ok (.value u) w := by
  unfold nilOk at h
  split at h
  · cases h
    obtain ⟨l, h1, rfl⟩ := den_ptr hx
    exact ⟨hx, by simp [execOp, ho, hy]⟩
  · cases h
    obtain ⟨a, b, _, _, rfl⟩ := den_func hx
    exact ⟨hx, by simp [execOp, ho, hy]⟩
  · cases h

theorem asInt_den {x : SVal} {i : Int} (h : asI x = some i) {ρ : Val} {u : Value} (hx : den ρ x = some u) : ∃ k, u = .int k i := asI_den h hx

theorem indexAddr_ok {P : Program} {E : Env} (hE : EnvOk P E) {t : TypeId} {d : TypeDesc} (hd : under E t = some d) {i : Int} {x ix s : SVal} (hi : asI ix = some i) (h : indexAddrS E i d x = some s) {ρ : Val} {u ui : Value} (hx : den ρ x = some u) (hix : den ρ ix = some ui) :
    ∃ r, den ρ s = some r ∧ ∀ w, (Instr.indexAt t u ui).run P w = .ok r w := by
  obtain ⟨k, rfl⟩ := asI_den hi hix
  have hu := under_spec hE hd
  unfold indexAddrS at h
  split at h
  · rename_i n elem k' off
    rw [bnd_some] at h
    obtain ⟨j, h1, h2⟩ := h
    rw [bnd_some] at h2
    obtain ⟨sz, h3, h4⟩ := h2
    cases h4
    obtain ⟨rfl, h5⟩ := idx_spec h1
    obtain ⟨l, h6, rfl⟩ := den_ptr hx
    obtain ⟨inf, _, rfl, hs⟩ := sizeT_spec hE h3
    refine ⟨.pointer (some ⟨l.blk, l.base + (off + j * inf.size), none⟩), by simp [den, h6], fun w => ?_⟩
    have hj : (0 : Int) ≤ (j : Int) ∧ (j : Int) < (n : Int) := by omega
    simp only [Instr.indexAt, Sem.run_bind, asIntOf, Sem.run_pure, Result.andThen_ok, run_underlying hu, Instr.sureAddr, hj, and_self, if_true, hs, add_addr, Int.toNat_natCast, Nat.add_assoc]
  · rename_i elem k' off n c
    rw [bnd_some] at h
    obtain ⟨j, h1, h2⟩ := h
    rw [bnd_some] at h2
    obtain ⟨sz, h3, h4⟩ := h2
    cases h4
    obtain ⟨rfl, h5⟩ := idx_spec h1
    obtain ⟨l, h6, rfl⟩ := den_sl hx
    obtain ⟨inf, _, rfl, hs⟩ := sizeT_spec hE h3
    refine ⟨.pointer (some ⟨l.blk, l.base + (off + j * inf.size), none⟩), by simp [den, h6], fun w => ?_⟩
    have hj : (0 : Int) ≤ (j : Int) ∧ (j : Int) < (n : Int) := by omega
    simp only [Instr.indexAt, Sem.run_bind, asIntOf, Sem.run_pure, Result.andThen_ok, run_underlying hu, hj, and_self, if_true, hs, add_addr, Int.toNat_natCast, Nat.add_assoc]
  · cases h

theorem index_ok {P : Program} {E : Env} (hE : EnvOk P E) {t : TypeId} {d : TypeDesc} (hd : under E t = some d) {i : Int} {x ix s : SVal} (hi : asI ix = some i) (h : indexS E i d x = some s) {ρ : Val} {u ui : Value} (hx : den ρ x = some u) (hix : den ρ ix = some ui) :
    ∃ r, den ρ s = some r ∧ ∀ w, (Instr.index t u ui).run P w = .ok r w := by
  obtain ⟨k, rfl⟩ := asI_den hi hix
  have hu := under_spec hE hd
  unfold indexS at h
  split at h
  · rename_i n elem l
    rw [bnd_some] at h
    obtain ⟨j, h1, h2⟩ := h
    rw [bnd_some] at h2
    obtain ⟨sz, h3, h4⟩ := h2
    obtain ⟨rfl, h5⟩ := idx_spec h1
    obtain ⟨vs, h6, rfl⟩ := den_agg hx
    obtain ⟨inf, _, rfl, hs⟩ := sizeT_spec hE h3
    obtain ⟨v, h7, h8⟩ := partS_spec hE h4 h6
    refine ⟨v, h7, fun w => ?_⟩
    have hj : (0 : Int) ≤ (j : Int) ∧ (j : Int) < (n : Int) := by omega
    simp only [Instr.index, Sem.run_bind, asIntOf, Sem.run_pure, Result.andThen_ok, run_underlying hu, hj, and_self, if_true, hs, Int.toNat_natCast]
    exact h8 w
  · rename_i l
    rw [bnd_some] at h
    obtain ⟨j, h1, h2⟩ := h
    rw [bnd_some] at h2
    obtain ⟨b, h3, h4⟩ := h2
    cases h4
    obtain ⟨rfl, h5⟩ := idx_spec h1
    cases hx
    refine ⟨.int .u8 b.toNat, rfl, fun w => ?_⟩
    have hb : (⟨l.toArray⟩ : ByteArray)[j]? = some b := by
      rw [getElem?_pos (⟨l.toArray⟩ : ByteArray) j h5]
      obtain ⟨_, h9⟩ := List.getElem?_eq_some_iff.1 h3
      exact congrArg some h9
    have hj : (0 : Int) ≤ (j : Int) := by omega
    simp only [Instr.index, Sem.run_bind, asIntOf, Sem.run_pure, Result.andThen_ok, run_underlying hu, hj, if_true, Int.toNat_natCast, hb]
  · cases h

theorem bound_ok {P : Program} {v : SVal} {i : Int} (hi : asI v = some i) {y n : Nat} (h : upTo i y = some n) {ρ : Val} {u : Value} (hv : den ρ v = some u) (c : BoundsCode) (w : World) : (Instr.sliceBound u y c).run P w = .ok n w ∧ n ≤ y := by
  obtain ⟨k, rfl⟩ := asI_den hi hv
  obtain ⟨rfl, h2⟩ := upTo_spec h
  have hj : (0 : Int) ≤ (n : Int) ∧ (n : Int) ≤ (y : Int) := by omega
  exact ⟨by simp only [Instr.sliceBound, Sem.run_bind, asIntOf, Sem.run_pure, Result.andThen_ok, hj, and_self, if_true, Int.toNat_natCast], h2⟩
/-- an operand that may be missing -/
def OptDen (ρ : Val) (x : Option SVal) (u : Option Value) : Prop := match x, u with
  | none, none => True
  | some s, some v => den ρ s = some v
  | _, _ => False
theorem bOpt_some {P : Program} {v : SVal} {y o n : Nat} (h : bOpt (some v) y o = some n) {ρ : Val} {u : Value} (hv : den ρ v = some u) (c : BoundsCode) (w : World) : (Instr.sliceBound u y c).run P w = .ok n w ∧ n ≤ y := by
  unfold bOpt at h
  simp only at h
  cases hi : asI v with
  | none => rw [hi] at h; cases h
  | some i => rw [hi] at h; exact bound_ok hi h hv c w
theorem bOpt_none {y o n : Nat} (h : bOpt none y o = some n) : n = o := by cases h; rfl

/-- the three bounds -/
theorem bounds_ok {P : Program} {lo hi mx : Option SVal} {cap len l h m : Nat} (hok : hiOk hi mx = true) (hm : bOpt mx cap cap = some m) (hh : bOpt hi m len = some h) (hl : bOpt lo h 0 = some l) {ρ : Val} {ul uh um : Option Value}
    (dl : OptDen ρ lo ul) (dh : OptDen ρ hi uh) (dm : OptDen ρ mx um) (b : Bool) (w : World) : (Instr.sliceBounds b len cap ul uh um).run P w = .ok (l, h, m) w := by
  cases mx with
  | none =>
    cases um with
    | some v => exact dm.elim
    | none =>
      cases bOpt_none hm
      cases hi with
      | none =>
        cases uh with
        | some v => exact dh.elim
        | none =>
          cases bOpt_none hh
          cases lo with
          | none => cases ul with
            | some v => exact dl.elim
            | none => cases bOpt_none hl; simp [Instr.sliceBounds]
          | some v => cases ul with
            | none => exact dl.elim
            | some u =>
              have h1 := (bOpt_some (P := P) hl dl .sliceB w).1
              simp [Instr.sliceBounds, h1]
      | some v =>
        cases uh with
        | none => exact dh.elim
        | some u =>
          have h2 := (bOpt_some (P := P) hh dh (if b then .sliceAcap else .sliceAlen) w).1
          cases lo with
          | none => cases ul with
            | some v => exact dl.elim
            | none => cases bOpt_none hl; simp [Instr.sliceBounds, h2]
          | some v => cases ul with
            | none => exact dl.elim
            | some u =>
              have h1 := (bOpt_some (P := P) hl dl .sliceB w).1
              simp [Instr.sliceBounds, h1, h2]
  | some v =>
    cases um with
    | none => exact dm.elim
    | some x =>
      have h3 := (bOpt_some (P := P) hm dm (if b then .slice3Acap else .slice3Alen) w).1
      cases hi with
      | none => cases hok
      | some v =>
        cases uh with
        | none => exact dh.elim
        | some u =>
          have h2 := (bOpt_some (P := P) hh dh .slice3B w).1
          cases lo with
          | none => cases ul with
            | some v => exact dl.elim
            | none => cases bOpt_none hl; simp [Instr.sliceBounds, h2, h3]
          | some v => cases ul with
            | none => exact dl.elim
            | some u =>
              have h1 := (bOpt_some (P := P) hl dl .slice3C w).1
              simp [Instr.sliceBounds, h1, h2, h3]

theorem restOk_spec {b : Blk} {size off len o : Nat} (h : restOk b size off len o = true) : b.slack = some size ∧ off + len * size ≤ b.n ∧ off = o * size ∧ 1 ≤ size := by
  have h' : @Bool.rec (fun _ => Bool) false (@Bool.rec (fun _ => Bool) false (@Bool.rec (fun _ => Bool) false (@Option.rec _ (fun _ => Bool) false (fun s => Nat.beq s size) b.slack) (Nat.ble (Nat.add off (Nat.mul len size)) b.n)) (Nat.beq off (Nat.mul o size))) (Nat.ble 1 size) = true := h
  cases h1 : Nat.ble 1 size with
  | false => rw [h1] at h'; cases h'
  | true =>
    rw [h1] at h'
    cases h2 : Nat.beq off (Nat.mul o size) with
    | false => rw [h2] at h'; cases h'
    | true =>
      rw [h2] at h'
      cases h3 : Nat.ble (Nat.add off (Nat.mul len size)) b.n with
      | false => rw [h3] at h'; cases h'
      | true =>
        rw [h3] at h'
        cases h4 : b.slack with
        | none => rw [h4] at h'; cases h'
        | some s => rw [h4] at h'; cases beq_true h'; exact ⟨rfl, ble_true h3, beq_true h2, ble_true h1⟩
/-- a slice whose capacity is not known lies within it -/
theorem rest_cap [Fam] {b : Blk} {size off len o : Nat} (h : restOk b size off len o = true) {st : St} {k : Nat} (hb : st.blk k = some b) {ρ : Val} {w : World} (hr : Rep ρ st.look w) {l : Loc} (hl : ρ k = some l) : o + len ≤ l.cap := by
  obtain ⟨h1, h2, rfl, h4⟩ := restOk_spec h
  obtain ⟨l', h5, h6⟩ := hr.lies k _ (blk_spec hb)
  rw [hl] at h5
  cases h5
  obtain ⟨cs, e, fz, _, _, _, h7⟩ := h6
  have h8 := (h7 size h1).1
  have h9 : (o + len) * size ≤ l.cap * size := by rw [Nat.add_mul]; omega
  exact Nat.le_of_mul_le_mul_right h9 h4

/-- where a slice begins -/
theorem cut_addr {b o l m size : Nat} : (if m = l then (⟨b, o, none⟩ : Addr) else (⟨b, o, none⟩ : Addr).add (l * size)) = ⟨b, (@Bool.rec (fun _ => Nat) (o + l * size) o (Nat.beq m l)), none⟩ := by
  by_cases h : m = l
  · rw [if_pos h, beq_of h]
  · rw [if_neg h, beq_no h, add_addr]
theorem cutAt_den {ρ : Val} {k off size l h m : Nat} {L : Loc} (hk : ρ k = some L) :
    den ρ (cutAt k off size l h m) = some (.slice (some (if m = l then (⟨L.blk, L.base + off, none⟩ : Addr) else (⟨L.blk, L.base + off, none⟩ : Addr).add (l * size))) (h - l) (m - l)) := by
  rw [cut_addr]
  show den ρ (.sl k (@Bool.rec (fun _ => Nat) (off + l * size) off (Nat.beq m l)) (h - l) (.ex (m - l))) = _
  simp only [den, hk, Option.map_some]
  cases Nat.beq m l <;> simp [Nat.add_assoc]

theorem bOpt_le {x : Option SVal} {y o n : Nat} (h : bOpt x y o = some n) (ho : o ≤ y) : n ≤ y := by
  cases x with
  | none => cases h; exact ho
  | some v =>
    unfold bOpt at h
    simp only at h
    cases hi : asI v with
    | none => rw [hi] at h; cases h
    | some i => rw [hi] at h; exact (upTo_spec h).2
theorem bytes_cut (s : List UInt8) (l h : Nat) : (⟨s.toArray⟩ : ByteArray).extract l h = ⟨((s.take h).drop l).toArray⟩ := by
  rw [ByteArray.extract_mk, List.drop_take]

theorem sliceStr_ok [Fam] {P : Program} {lo hi mx : Option SVal} {l : List UInt8} {s : SVal} (h : sliceStr l lo hi mx = some s) {ρ : Val} {ul uh um : Option Value} (dl : OptDen ρ lo ul) (dh : OptDen ρ hi uh) (dm : OptDen ρ mx um) {t : TypeId}
    (hu : P.underlying t = some .string) : ∃ r, den ρ s = some r ∧ ∀ w, (Instr.slice t (.string ⟨l.toArray⟩) ul uh um).run P w = .ok r w := by
  unfold sliceStr at h
  cases mx with
  | some v => cases h
  | none =>
    cases um with
    | some v => exact dm.elim
    | none =>
      simp only at h
      rw [bnd_some] at h
      obtain ⟨h', h1, h⟩ := h
      rw [bnd_some] at h
      obtain ⟨l', h2, h3⟩ := h
      cases h3
      refine ⟨.string ⟨((l.take h').drop l').toArray⟩, rfl, fun w => ?_⟩
      have hb := bounds_ok (P := P) (cap := l.length) (len := l.length) (m := l.length) (mx := none) (by cases hi <;> rfl) rfl h1 h2 dl dh trivial false w (um := none)
      have e : (⟨l.toArray⟩ : ByteArray).size = l.length := rfl
      simp only [Instr.slice, Sem.run_bind, run_underlying hu, Result.andThen_ok, Option.isSome_none, Bool.false_eq_true, if_false, e, hb, Sem.run_pure, bytes_cut]

theorem sliceNil_ok [Fam] {P : Program} {lo hi mx : Option SVal} {s : SVal} (h : sliceNil lo hi mx = some s) {ρ : Val} {ul uh um : Option Value} (dl : OptDen ρ lo ul) (dh : OptDen ρ hi uh) (dm : OptDen ρ mx um) {t e : TypeId}
    (hu : P.underlying t = some (.slice e)) {n : Nat} (hs : ∀ w, (Go.sizeOf e).run P w = .ok n w) : ∃ r, den ρ s = some r ∧ ∀ w, (Instr.slice t (.slice none 0 0) ul uh um).run P w = .ok r w := by
  unfold sliceNil at h
  rw [whn_some, bnd_some] at h
  obtain ⟨hok, m, h1, h⟩ := h
  rw [bnd_some] at h
  obtain ⟨h', h2, h⟩ := h
  rw [bnd_some] at h
  obtain ⟨l', h3, h4⟩ := h
  cases h4
  have hm : m = 0 := by have := bOpt_le h1 (Nat.le_refl _); omega
  subst hm
  have hh : h' = 0 := by have := bOpt_le h2 (Nat.le_refl _); omega
  subst hh
  have hl : l' = 0 := by have := bOpt_le h3 (Nat.le_refl _); omega
  subst hl
  refine ⟨_, rfl, fun w => ?_⟩
  have hb := bounds_ok (P := P) hok h1 h2 h3 dl dh dm true w
  simp only [Instr.slice, Sem.run_bind, run_underlying hu, Result.andThen_ok, hb, hs w, Sem.run_pure, if_true, Nat.sub_zero]

/-- a slice with a known capacity, or of an array -/
theorem sliceEx_bounds [Fam] {P : Program} {size k off len c : Nat} {lo hi mx : Option SVal} {s : SVal} (h : sliceEx size k off len c lo hi mx = some s) {ρ : Val} {ul uh um : Option Value} (dl : OptDen ρ lo ul) (dh : OptDen ρ hi uh) (dm : OptDen ρ mx um) (b : Bool) :
    ∃ l h m, s = cutAt k off size l h m ∧ ∀ w, (Instr.sliceBounds b len c ul uh um).run P w = .ok (l, h, m) w := by
  unfold sliceEx at h
  rw [whn_some, bnd_some] at h
  obtain ⟨hok, m, h1, h⟩ := h
  rw [bnd_some] at h
  obtain ⟨h', h2, h⟩ := h
  rw [bnd_some] at h
  obtain ⟨l', h3, h4⟩ := h
  cases h4
  exact ⟨_, _, _, rfl, fun w => bounds_ok hok h1 h2 h3 dl dh dm b w⟩

theorem sliceSl_ok [Fam] {P : Program} {E : Env} (hE : EnvOk P E) {size k off len : Nat} {cap : Cap} {lo hi mx : Option SVal} {s : SVal} {st : St} (h : sliceSl st size k off len cap lo hi mx = some s) {ρ : Val} {w : World} (hr : Rep ρ st.look w) {ul uh um : Option Value}
    (dl : OptDen ρ lo ul) (dh : OptDen ρ hi uh) (dm : OptDen ρ mx um) {t e : TypeId} (hu : P.underlying t = some (.slice e)) (hs : sizeT E e = some size) {u : Value} (hx : den ρ (.sl k off len cap) = some u) :
    ∃ r, den ρ s = some r ∧ (Instr.slice t u ul uh um).run P w = .ok r w := by
  obtain ⟨L, hk, rfl⟩ := den_sl hx
  obtain ⟨i, _, rfl, hs⟩ := sizeT_spec hE hs
  unfold sliceSl at h
  split at h
  · obtain ⟨l, h', m, rfl, hb⟩ := sliceEx_bounds (P := P) h dl dh dm true
    refine ⟨_, cutAt_den hk, ?_⟩
    simp only [Instr.slice, Sem.run_bind, run_underlying hu, Result.andThen_ok, capAt, hb w, hs w, Sem.run_pure]
    split <;> rfl
  · rename_i o
    cases um with
    | some v => exact dm.elim
    | none =>
      unfold sliceRest at h
      rw [bnd_some] at h
      obtain ⟨b, hblk, h⟩ := h
      rw [whn_some, bnd_some] at h
      obtain ⟨hrest, h', h2, h⟩ := h
      rw [bnd_some] at h
      obtain ⟨l', h3, h4⟩ := h
      have hcap := rest_cap hrest hblk hr hk
      have h2' : bOpt hi (L.cap - o) len = some h' := by
        cases hi with
        | none => cases h2; rfl
        | some v =>
          unfold bOpt at h2 ⊢
          simp only at h2 ⊢
          cases hi : asI v with
          | none => rw [hi] at h2; cases h2
          | some i =>
            rw [hi] at h2
            simp only at h2 ⊢
            obtain ⟨rfl, h5⟩ := upTo_spec h2
            have : Nat.ble h' (L.cap - o) = true := Nat.ble_eq_true_of_le (by omega)
            show @Bool.rec (fun _ => Option Nat) none (some h') (Nat.ble h' (L.cap - o)) = _
            rw [this]
      have hb := bounds_ok (P := P) (cap := L.cap - o) (len := len) (m := L.cap - o) (mx := none) (by cases hi <;> rfl) rfl h2' h3 dl dh trivial true w (um := none)
      have run : (Instr.slice t (.slice (some ⟨L.blk, L.base + off, none⟩) len (L.cap - o)) ul uh none).run P w =
          .ok (.slice (some (if L.cap - o = l' then (⟨L.blk, L.base + off, none⟩ : Addr) else (⟨L.blk, L.base + off, none⟩ : Addr).add (l' * i.size))) (h' - l') (L.cap - o - l')) w := by
        simp only [Instr.slice, Sem.run_bind, run_underlying hu, Result.andThen_ok, hb, hs w, Sem.run_pure]
        split <;> rfl
      cases hz : Nat.beq l' 0 with
      | true =>
        cases beq_true hz
        rw [hz] at h4
        have h4 : some (SVal.sl k off h' (.rest o)) = some s := h4
        cases h4
        refine ⟨_, by simp only [den, hk, Option.map_some]; rfl, run.trans ?_⟩
        congr 2
        split <;> simp [Addr.add]
      | false =>
        rw [hz] at h4
        have h4 : whn (Nat.ble (Nat.succ l') len) (some (SVal.sl k (Nat.add off (Nat.mul l' i.size)) (Nat.sub h' l') (.rest (Nat.add o l')))) = some s := h4
        rw [whn_some] at h4
        obtain ⟨h5, h6⟩ := h4
        cases h6
        have h5 : l' + 1 ≤ len := ble_true h5
        refine ⟨.slice (some ⟨L.blk, L.base + (off + l' * i.size), none⟩) (h' - l') (L.cap - (o + l')), by simp [den, hk], run.trans ?_⟩
        rw [if_neg (by omega), add_addr]
        simp [Nat.add_assoc, Nat.sub_sub]
  · rename_i o v
    cases um with
    | none => exact dm.elim
    | some vm =>
      unfold sliceRest3 at h
      cases hi with
      | none => cases h
      | some u =>
        cases uh with
        | none => exact dh.elim
        | some vh =>
          simp only at h
          rw [bnd_some] at h
          obtain ⟨b, hblk, h⟩ := h
          rw [whn_some, bnd_some] at h
          obtain ⟨hrest, m, h1, h⟩ := h
          rw [bnd_some] at h
          obtain ⟨h', h2, h⟩ := h
          rw [bnd_some] at h
          obtain ⟨l', h3, h4⟩ := h
          cases h4
          have hcap := rest_cap hrest hblk hr hk
          have h1' : bOpt (some v) (L.cap - o) (L.cap - o) = some m := by
            unfold bOpt at h1 ⊢
            simp only at h1 ⊢
            cases hi : asI v with
            | none => rw [hi] at h1; cases h1
            | some i =>
              rw [hi] at h1
              simp only at h1 ⊢
              obtain ⟨rfl, h5⟩ := upTo_spec h1
              have : Nat.ble m (L.cap - o) = true := Nat.ble_eq_true_of_le (by omega)
              show @Bool.rec (fun _ => Option Nat) none (some m) (Nat.ble m (L.cap - o)) = _
              rw [this]
          have h2' : bOpt (some u) m len = some h' := h2
          have hb := bounds_ok (P := P) (cap := L.cap - o) (len := len) (m := m) (mx := some v) (hi := some u) rfl h1' h2' h3 dl dh dm true w
          refine ⟨_, cutAt_den hk, ?_⟩
          simp only [Instr.slice, Sem.run_bind, run_underlying hu, Result.andThen_ok, capAt, hb, hs w, Sem.run_pure]
          split <;> rfl

theorem slice_ok [Fam] {P : Program} {E : Env} (hE : EnvOk P E) {t : TypeId} {d : TypeDesc} (hd : under E t = some d) {st : St} {x s : SVal} {lo hi mx : Option SVal} (h : sliceS E st d x lo hi mx = some s) {ρ : Val} {w : World} (hr : Rep ρ st.look w) {u : Value} {ul uh um : Option Value}
    (hx : den ρ x = some u) (dl : OptDen ρ lo ul) (dh : OptDen ρ hi uh) (dm : OptDen ρ mx um) : ∃ r, den ρ s = some r ∧ (Instr.sliceAt t u ul uh um).run P w = .ok r w := by
  have hu := under_spec hE hd
  unfold sliceS at h
  split at h
  · rename_i l
    cases hx
    obtain ⟨r, h1, h2⟩ := sliceStr_ok (P := P) h dl dh dm hu
    exact ⟨r, h1, by simp only [Instr.sliceAt, Sem.run_bind, run_underlying hu, Result.andThen_ok, h2 w]⟩
  · rename_i e
    cases hx
    rw [bnd_some] at h
    obtain ⟨n, h1, h2⟩ := h
    obtain ⟨i, _, rfl, hs⟩ := sizeT_spec hE h1
    obtain ⟨r, h3, h4⟩ := sliceNil_ok (P := P) h2 dl dh dm hu hs
    exact ⟨r, h3, by simp only [Instr.sliceAt, Sem.run_bind, run_underlying hu, Result.andThen_ok, h4 w]⟩
  · rename_i e k off len cap
    rw [bnd_some] at h
    obtain ⟨size, h1, h2⟩ := h
    obtain ⟨r, h3, h4⟩ := sliceSl_ok hE h2 hr dl dh dm hu h1 hx
    exact ⟨r, h3, by simp only [Instr.sliceAt, Sem.run_bind, run_underlying hu, Result.andThen_ok, h4]⟩
  · rename_i n e k off
    obtain ⟨L, hk, rfl⟩ := den_ptr hx
    unfold sliceArr at h
    rw [bnd_some] at h
    obtain ⟨size, h1, h2⟩ := h
    obtain ⟨i, _, rfl, hs⟩ := sizeT_spec hE h1
    obtain ⟨l, h', m, rfl, hb⟩ := sliceEx_bounds (P := P) h2 dl dh dm false
    refine ⟨_, cutAt_den hk, ?_⟩
    simp only [Instr.sliceAt, Sem.run_bind, run_underlying hu, Result.andThen_ok, Instr.sureAddr, hb w, hs w, Sem.run_pure]
  · rename_i arr k off
    rw [bnd_some] at h
    obtain ⟨d', hd', h⟩ := h
    have hu' := under_spec hE hd'
    unfold slicePtr at h
    split at h
    · rename_i n e
      obtain ⟨L, hk, rfl⟩ := den_ptr hx
      unfold sliceArr at h
      rw [bnd_some] at h
      obtain ⟨size, h1, h2⟩ := h
      obtain ⟨i, _, rfl, hs⟩ := sizeT_spec hE h1
      obtain ⟨l, h', m, rfl, hb⟩ := sliceEx_bounds (P := P) h2 dl dh dm false
      refine ⟨_, cutAt_den hk, ?_⟩
      simp only [Instr.sliceAt, Instr.slice, Sem.run_bind, run_underlying hu, run_underlying hu', Result.andThen_ok, asAddr, hb w, hs w, Sem.run_pure]
    · cases h
  · cases h
end Ev
/-
  Conversions, lengths, the greatest and the least, look-ups.
-/
namespace Ev
open Go Go.RowKit

theorem toBytes_cons {x : SVal} {r : List SVal} {l : List UInt8} (h : toBytes (x :: r) = some l) : ∃ n l', x = .int .u8 n ∧ toBytes r = some l' ∧ l = UInt8.ofNat n.toNat :: l' := by
  cases x with
  | int k n =>
    cases k <;> simp only [toBytes, reduceCtorEq] at h
    split at h
    · cases h
    · rename_i l' e
      cases h
      exact ⟨n, l', rfl, e, rfl⟩
  | _ => simp [toBytes] at h
theorem fold_bytes {ρ : Val} : ∀ {ls : List SVal} {l : List UInt8} {vs : List Value}, toBytes ls = some l → denL ρ ls = some vs → ∃ is : List Int, vs = is.map (fun n => Value.int .u8 n) ∧ l = is.map fun n => UInt8.ofNat n.toNat
  | [], l, vs, h, hd => by
    cases h
    rw [denL_nil] at hd
    exact ⟨[], hd, rfl⟩
  | x :: r, l, vs, h, hd => by
    obtain ⟨n, l', rfl, h2, rfl⟩ := toBytes_cons h
    obtain ⟨v, us, h3, h4, rfl⟩ := denL_cons.1 hd
    cases h3
    obtain ⟨is, rfl, rfl⟩ := fold_bytes h2 h4
    exact ⟨n :: is, rfl, rfl⟩

theorem forIn_bytes {P : Program} (w : World) {g : Value → ByteArray → Sem (ForInStep ByteArray)} (hg : ∀ n s, (g (.int .u8 n) s).run P w = .ok (.yield (s.push (UInt8.ofNat n.toNat))) w) : ∀ (is : List Int) (s : ByteArray),
    (forIn (is.map fun n => Value.int .u8 n) s g : Sem ByteArray).run P w = .ok (is.foldl (fun s n => s.push (UInt8.ofNat n.toNat)) s) w
  | [], s => rfl
  | n :: is, s => by
    simp only [List.map_cons, List.forIn_cons, Sem.run_bind, hg, Result.andThen_ok, List.foldl_cons]
    exact forIn_bytes w hg is _
theorem foldl_push : ∀ (is : List Int) (s : ByteArray), (is.foldl (fun s n => s.push (UInt8.ofNat n.toNat)) s) = ⟨s.data ++ (is.map fun n => UInt8.ofNat n.toNat).toArray⟩
  | [], s => by simp
  | n :: is, s => by
    rw [List.foldl_cons, foldl_push is]
    refine congrArg ByteArray.mk ?_
    show s.data.push _ ++ _ = _
    simp

theorem conv_ok [Fam] {P : Program} {E : Env} (hE : EnvOk P E) {s d : TypeId} {ds dd : TypeDesc} (hs : under E s = some ds) (hd : under E d = some dd) {st : St} {ρ : Val} {w : World} (hr : Rep ρ st.look w) {x r : SVal} (h : convS E st ds dd x = some r) {u : Value} (hx : den ρ x = some u) :
    ∃ v, den ρ r = some v ∧ (convert s d u).run P w = .ok v w := by
  have us := under_spec hE hs
  have ud := under_spec hE hd
  unfold convS at h
  split at h
  · cases h; cases hx
    exact ⟨_, rfl, by simp [convert, run_underlying us, run_underlying ud, Conv.intToInt, wrapF_eq]⟩
  · cases h; cases hx
    exact ⟨_, rfl, by simp [convert, run_underlying us, run_underlying ud]⟩
  · rename_i e
    rw [bnd_some] at h
    obtain ⟨u8, h1, h2⟩ := h
    split at h2
    · cases h2; cases hx
      have ue := under_spec hE h1
      exact ⟨_, rfl, by simp [convert, run_underlying us, run_underlying ud, run_underlying ue, Conv.bytesToString]; rfl⟩
    · cases h2
  · rename_i e k off len cap
    rw [bnd_some] at h
    obtain ⟨u8, h1, h2⟩ := h
    split at h2
    · have ue := under_spec hE h1
      rw [bnd_some] at h2
      obtain ⟨ls, h3, h4⟩ := h2
      rw [bnd_some] at h4
      obtain ⟨bs, h5, h6⟩ := h4
      cases h6
      obtain ⟨L, hk, rfl⟩ := den_sl hx
      obtain ⟨l, vs, h7, h8, _, _, h9⟩ := loadS_spec hr h3
      rw [hk] at h7
      cases h7
      obtain ⟨is, rfl, rfl⟩ := fold_bytes h5 h8
      refine ⟨_, rfl, ?_⟩
      simp only [convert, Sem.run_bind, run_underlying us, run_underlying ud, run_underlying ue, Result.andThen_ok, Conv.bytesToString, h9 P]
      rw [← Array.forIn_toList]
      rw [forIn_bytes (P := P) w (fun n s => by rfl) is ByteArray.empty, foldl_push]
      simp only [Result.andThen_ok, Sem.run_pure]
      congr 3
      simp
    · cases h2
  · cases h

theorem mapAt_spec {st : St} {k : Nat} {es : List (SVal × SVal)} (h : mapAt st k = some es) : st.look k = some (.map es) := by
  unfold mapAt at h
  rw [bnd_some] at h
  obtain ⟨o, h1, h2⟩ := h
  cases o with
  | cells b => cases h2
  | opq t => cases h2
  | map es' => cases h2; exact h1

/-- the entries of a map -/
def Ents (ρ : Val) (es : List (SVal × SVal)) (l : List MapEntry) : Prop :=
  l.length = es.length ∧ ∀ (i : Nat) (p : SVal × SVal), es[i]? = some p → ∃ e, l[i]? = some e ∧ den ρ p.1 = some e.key ∧ den ρ p.2 = some e.val
theorem Ents.nil (ρ : Val) : Ents ρ [] [] := ⟨rfl, fun i p h => by simp at h⟩
theorem mapOf_spec [Fam] {st : St} {ρ : Val} {w : World} (hr : Rep ρ st.look w) {x : SVal} {es : List (SVal × SVal)} (h : mapOf st x = some es) {u : Value} (hx : den ρ x = some u) :
    (u = .map none ∧ es = []) ∨ ∃ r ents clock, u = .map (some r) ∧ w.heap[r]? = some (.map ents clock) ∧ Ents ρ es ents.toList := by
  unfold mapOf at h
  split at h
  · cases h; cases hx; exact .inl ⟨rfl, rfl⟩
  · obtain ⟨l, h1, h2⟩ := hr.lies _ _ (mapAt_spec h)
    obtain ⟨l', h3, rfl⟩ := den_map hx
    rw [h1] at h3
    cases h3
    obtain ⟨ents, clock, h4, h5, h6⟩ := h2
    exact .inr ⟨l.blk, ents, clock, rfl, h4, h5, h6⟩
  · cases h

theorem len_ok [Fam] {P : Program} {E : Env} (hE : EnvOk P E) {t : TypeId} {d : TypeDesc} (hd : under E t = some d) {st : St} {ρ : Val} {w : World} (hr : Rep ρ st.look w) {x : SVal} {n : Nat} (h : lenAt E st d x = some n) {u : Value} (hx : den ρ x = some u) {ts : Array TypeId} (ht : ts[0]? = some t) (ty : TypeId) :
    (Builtin.len_ ts ty #[u]).run P w = .ok (.int .i64 n) w := by
  have hu := under_spec hE hd
  unfold lenAt at h
  split at h
  · cases h
    simp [Builtin.len_, ht, run_underlying hu, goInt]
  · rename_i arr
    rw [bnd_some] at h
    obtain ⟨d', h1, h2⟩ := h
    have hu' := under_spec hE h1
    unfold arrLen at h2
    split at h2
    · cases h2
      simp [Builtin.len_, ht, run_underlying hu, run_underlying hu', goInt]
    · cases h2
  · rw [bnd_some] at h
    obtain ⟨es, h1, h2⟩ := h
    cases h2
    rcases mapOf_spec hr h1 hx with ⟨rfl, rfl⟩ | ⟨r, ents, clock, rfl, h3, h4⟩
    · simp [Builtin.len_, ht, run_underlying hu, goInt]
    · have : ents.size = es.length := by rw [← h4.1]; simp
      simp [Builtin.len_, ht, run_underlying hu, MapKept.run_getObj_map h3, goInt, this]
  · unfold lenD at h
    split at h
    · cases h; cases hx
      have e : (⟨List.toArray ‹List UInt8›⟩ : ByteArray).size = (‹List UInt8› : List UInt8).length := rfl
      simp [Builtin.len_, ht, run_underlying hu, goInt, e]
    · cases h; cases hx
      simp [Builtin.len_, ht, run_underlying hu, goInt]
    · cases h
      obtain ⟨l, _, rfl⟩ := den_sl hx
      simp [Builtin.len_, ht, run_underlying hu, goInt]
    · cases h

theorem cap_ok {P : Program} {E : Env} (hE : EnvOk P E) {t e : TypeId} (hd : elemT E t = some e) {ρ : Val} {x : SVal} {n : Nat} (h : capS x = some n) {u : Value} (hx : den ρ x = some u) {ts : Array TypeId} (ht : ts[0]? = some t) (ty : TypeId) (w : World) :
    (Builtin.cap_ ts ty #[u]).run P w = .ok (.int .i64 n) w := by
  have hu := elemT_spec hE hd
  unfold capS at h
  split at h
  · cases h; cases hx
    simp [Builtin.cap_, ht, run_underlying hu, goInt]
  · cases h
    obtain ⟨l, _, rfl⟩ := den_sl hx
    simp [Builtin.cap_, ht, run_underlying hu, goInt, capAt]
  · cases h

theorem max_ok {P : Program} (w : World) : ∀ {l : List SVal} {x r : SVal}, maxF l x = some r → ∀ {ρ : Val} {us : List Value} {u : Value}, denL ρ l = some us → den ρ x = some u → ∃ v, den ρ r = some v ∧ (us.foldlM Builtin.max2 u).run P w = .ok v w
  | [], x, r, h, ρ, us, u, hl, hx => by
    cases h
    rw [denL_nil] at hl
    subst hl
    exact ⟨u, hx, rfl⟩
  | y :: l, x, r, h, ρ, us, u, hl, hx => by
    obtain ⟨v, vs, h1, h2, rfl⟩ := denL_cons.1 hl
    unfold maxF at h
    split at h
    · rename_i hh; cases hh
    · rename_i e
      cases e
      cases hx; cases h1
      obtain ⟨v, h3, h4⟩ := max_ok w h h2 rfl
      refine ⟨v, h3, ?_⟩
      have e2 : ∀ a b : Int, @Bool.rec (fun _ => Int) a b (ltI a b) = if b > a then b else a := fun a b => by
        rw [ltI_eq]
        by_cases hh : a < b
        · rw [decide_eq_true hh, if_pos hh]
        · rw [decide_eq_false hh, if_neg hh]
      rw [List.foldlM_cons]
      simp only [Sem.run_bind, Builtin.max2, Sem.run_pure, Result.andThen_ok]
      rw [← e2]
      exact h4
    · cases h
theorem min_ok {P : Program} (w : World) : ∀ {l : List SVal} {x r : SVal}, minF l x = some r → ∀ {ρ : Val} {us : List Value} {u : Value}, denL ρ l = some us → den ρ x = some u → ∃ v, den ρ r = some v ∧ (us.foldlM Builtin.min2 u).run P w = .ok v w
  | [], x, r, h, ρ, us, u, hl, hx => by
    cases h
    rw [denL_nil] at hl
    subst hl
    exact ⟨u, hx, rfl⟩
  | y :: l, x, r, h, ρ, us, u, hl, hx => by
    obtain ⟨v, vs, h1, h2, rfl⟩ := denL_cons.1 hl
    unfold minF at h
    split at h
    · rename_i hh; cases hh
    · rename_i e
      cases e
      cases hx; cases h1
      obtain ⟨v, h3, h4⟩ := min_ok w h h2 rfl
      refine ⟨v, h3, ?_⟩
      have e2 : ∀ a b : Int, @Bool.rec (fun _ => Int) a b (ltI b a) = if b < a then b else a := fun a b => by
        rw [ltI_eq]
        by_cases hh : b < a
        · rw [decide_eq_true hh, if_pos hh]
        · rw [decide_eq_false hh, if_neg hh]
      rw [List.foldlM_cons]
      simp only [Sem.run_bind, Builtin.min2, Sem.run_pure, Result.andThen_ok]
      rw [← e2]
      exact h4
    · cases h

theorem keyD_ok {d : TypeDesc} {k : SVal} (h : keyD d k = true) {ρ : Val} {u : Value} (hk : den ρ k = some u) : MapKept.IsKey d u := by
  unfold keyD at h
  split at h
  · cases kEq_eq h; cases hk; simp [MapKept.IsKey]
  · cases hk; simp [MapKept.IsKey]
  · cases h
theorem beq_bytes (a b : List UInt8) : ((⟨a.toArray⟩ : ByteArray) == ⟨b.toArray⟩) = (a == b) := by
  rw [Bool.eq_iff_iff, MapKept.bytes_beq]
  simp
theorem sameKey_ok {d : TypeDesc} {k x : SVal} {b : Bool} (h : sameKey d k x = some b) {ρ : Val} {u v : Value} (hk : den ρ k = some u) (hx : den ρ x = some v) : Instr.sameNow d u v = some b ∧ (b = true → u = v) := by
  unfold sameKey at h
  split at h
  · rename_i j a j' b'
    cases he : kEq j j' with
    | false => rw [he] at h; cases h
    | true =>
      rw [he] at h
      have h : some (eqI a b') = some b := h
      cases h
      cases kEq_eq he
      cases hk; cases hx
      rw [eqI_eq]
      refine ⟨by simp only [Instr.sameNow, if_true]; rfl, fun hh => by rw [of_decide_eq_true hh]⟩
  · cases h; cases hk; cases hx
    refine ⟨by simp only [Instr.sameNow, beq_bytes], fun hh => by rw [beq_iff_eq.1 hh]⟩
  · cases h

theorem findS_nil (d : TypeDesc) (k : SVal) (i : Nat) : findS d k [] i = some none := rfl
theorem findS_cons (d : TypeDesc) (k : SVal) (p : SVal × SVal) (es : List (SVal × SVal)) (i : Nat) :
    findS d k (p :: es) i = bnd (sameKey d k p.1) fun b => @Bool.rec (fun _ => M (Option (Nat × SVal))) (findS d k es (i + 1)) (some (some (i, p.2))) b := rfl
/-- what is found of a key -/
def Found (ρ : Val) (es : List (SVal × SVal)) (l : List MapEntry) (u : Value) (i : Nat) : Option (Nat × SVal) → Option (Nat × Value) → Prop
  | none, none => True
  | some p, some q => ∃ j e pe, p.1 = i + j ∧ q = (i + j, e.val) ∧ l[j]? = some e ∧ es[j]? = some pe ∧ e.key = u ∧ den ρ p.2 = some e.val
  | _, _ => False
theorem findS_ok {d : TypeDesc} {k : SVal} {ρ : Val} {u : Value} (hk : den ρ k = some u) : ∀ {es : List (SVal × SVal)} {l : List MapEntry} {i : Nat} {r : Option (Nat × SVal)}, findS d k es i = some r → Ents ρ es l →
    ∃ r', Instr.findNow d u l i = some r' ∧ Found ρ es l u i r r'
  | [], l, i, r, h, he => by
    cases h
    have : l = [] := List.length_eq_zero_iff.1 he.1
    subst this
    exact ⟨none, rfl, trivial⟩
  | p :: es, l, i, r, h, he => by
    rw [findS_cons, bnd_some] at h
    obtain ⟨b, h1, h2⟩ := h
    obtain ⟨e, h3, h4, h5⟩ := he.2 0 p rfl
    cases l with
    | nil => simp at h3
    | cons e0 l =>
      simp only [List.getElem?_cons_zero, Option.some.injEq] at h3
      subst h3
      obtain ⟨h6, h7⟩ := sameKey_ok h1 hk h4
      cases b with
      | true =>
        have h2 : some (some (i, p.2)) = some r := h2
        cases h2
        exact ⟨some (i, e0.val), by simp [Instr.findNow, h6], 0, e0, p, rfl, rfl, rfl, rfl, (h7 rfl).symm, h5⟩
      | false =>
        have h2 : findS d k es (i + 1) = some r := h2
        have he' : Ents ρ es l := ⟨by simpa using he.1, fun j q hq => by simpa using he.2 (j + 1) q (by simpa using hq)⟩
        obtain ⟨r', h8, h9⟩ := findS_ok hk h2 he'
        refine ⟨r', by simp [Instr.findNow, h6, h8], ?_⟩
        cases r with
        | none => cases r' with
          | none => trivial
          | some q => exact h9.elim
        | some p' => cases r' with
          | none => exact h9.elim
          | some q =>
            obtain ⟨j, e, pe, h10, h11, h12, h13, h14, h15⟩ := h9
            exact ⟨j + 1, e, pe, by omega, by rw [h11]; congr 1; omega, by simpa using h12, by simpa using h13, h14, h15⟩

theorem lookup_ok [Fam] {P : Program} {E : Env} (hE : EnvOk P E) {t : TypeId} {ke : TypeId × TypeId} (ht : bnd (under E t) mapD = some ke) {st : St} {ρ : Val} {w : World} (hr : Rep ρ st.look w) {x k : SVal} {es : List (SVal × SVal)} (hm : mapOf st x = some es) {d : TypeDesc} (hd : under E ke.1 = some d)
    (hk : keyD d k = true) {r : Option (Nat × SVal)} (hf : findS d k es 0 = some r) {u uk : Value} (hx : den ρ x = some u) (hku : den ρ k = some uk) (ok : Bool) {s : SVal}
    (hs : (∃ z, r = none ∧ zeroT E ke.2 = some z ∧ s = lookV ok z false) ∨ ∃ p, r = some p ∧ s = lookV ok p.2 true) : ∃ v, den ρ s = some v ∧ (Instr.lookup t u uk ok).run P w = .ok v w := by
  have hu := mapD_spec hE ht
  have hdk := under_spec hE hd
  have hkey := keyD_ok hk hku
  have tail : ∀ l, Ents ρ es l → ∃ v, den ρ s = some v ∧ ∀ em, (do
      Instr.checkKey em 10000 ke.1 uk
      let (v, ok') ← match ← Instr.findKey ke.1 uk l with
        | some (_, v) => (pure (v, true) : Sem (Value × Bool))
        | none => do pure (← zeroValue ke.2, false)
      pure (if ok then .tuple #[v, .bool ok'] else v) : Sem Value).run P w = .ok v w := by
    intro l hl
    obtain ⟨r', h1, h2⟩ := findS_ok hku hf hl
    rcases hs with ⟨z, rfl, hz, rfl⟩ | ⟨p, rfl, rfl⟩
    · obtain ⟨_, zv, _, _, hzd, hzr⟩ := zeroT_spec hE hz
      cases r' with
      | some q => exact h2.elim
      | none =>
        refine ⟨if ok then .tuple #[zv, .bool false] else zv, by cases ok <;> simp [lookV, den, denL, hzd], fun em => ?_⟩
        simp only [Sem.run_bind, MapKept.run_checkKey hdk hkey, MapKept.run_findKey hdk h1, Result.andThen_ok, hzr w, Sem.run_pure]
    · cases r' with
      | none => exact h2.elim
      | some q =>
        obtain ⟨j, e, pe, h10, rfl, h12, h13, h14, h15⟩ := h2
        refine ⟨if ok then .tuple #[e.val, .bool true] else e.val, by cases ok <;> simp [lookV, den, denL, h15], fun em => ?_⟩
        simp only [Sem.run_bind, MapKept.run_checkKey hdk hkey, MapKept.run_findKey hdk h1, Result.andThen_ok, Sem.run_pure]
  rcases mapOf_spec hr hm hx with ⟨rfl, rfl⟩ | ⟨b, ents, clock, rfl, h3, h4⟩
  · obtain ⟨v, h1, h2⟩ := tail [] (Ents.nil ρ)
    refine ⟨v, h1, Eq.trans ?_ (h2 true)⟩
    simp only [Instr.lookup, Sem.run_bind, run_underlying hu, Result.andThen_ok, Sem.run_pure]
    rfl
  · obtain ⟨v, h1, h2⟩ := tail _ h4
    refine ⟨v, h1, Eq.trans ?_ (h2 ents.isEmpty)⟩
    simp only [Instr.lookup, Sem.run_bind, run_underlying hu, Result.andThen_ok, Sem.run_pure, MapKept.run_getObj_map h3]
    rfl
end Ev
/-
  Operations that lay new rows.
-/
namespace Ev
open Go Go.RowKit

/-- a new row -/
theorem newBlk_spec [Fam] {st st' : St} {k n : Nat} {c : T SVal} {elem : TypeId} {slack : Option Nat} (h : st.fresh (.cells ⟨n, c, elem, slack, true⟩) = some (k, st')) {ρ : Val} {w : World} (hr : Rep ρ st.look w) (hwf : Wf st) (hf : Free ρ st.next st'.next)
    {cs : Array Value} {cap : Nat} (hc : ∀ i, i < n → ∃ s v, c.get i = some s ∧ den ρ s = some v ∧ cs[i]? = some v) (h1 : slack = none → cs.size = n) (h2 : ∀ sz, slack = some sz → n ≤ cap * sz ∧ cs.size = cap * sz) :
    ∃ ρ', ρ' k = some ⟨w.heap.size, 0, cap⟩ ∧ Rep ρ' st'.look (w.alloc (.cells cs elem)) ∧ Step st.next st'.next ρ st.look w ρ' st'.look (w.alloc (.cells cs elem)) := by
  obtain ⟨e1, e2, _⟩ := fresh_spec h
  have hk : ρ k = none := hf k (by omega) (by omega)
  have hle := bind1_le ⟨w.heap.size, 0, cap⟩ hk
  obtain ⟨h3, h4⟩ := fresh_rep h hr hk hwf rfl (.cells cs elem) cap ⟨cs, elem, (0, 0), alloc_heap_new w _, fun i hi => by
    obtain ⟨s, v, h5, h6, h7⟩ := hc i hi
    exact ⟨s, v, h5, den_le hle _ _ h6, by rw [Nat.zero_add]; exact h7⟩, fun _ => ⟨rfl, rfl, rfl, h1⟩, fun sz hsz => ⟨(h2 sz hsz).1, fun _ => (h2 sz hsz).2⟩⟩
  exact ⟨_, bind1_self _ _ _, h3, h4⟩
theorem newRow_spec [Fam] {st st' : St} {k : Nat} {l : List SVal} {elem : TypeId} {slack : Option Nat} (h : newRowS st l elem slack = some (k, st')) :
    Sta st st' ∧ ∀ {ρ : Val} {w : World}, Rep ρ st.look w → Wf st → Free ρ st.next st'.next → ∀ {vs : List Value}, denL ρ l = some vs → ∀ {cs : Array Value} {cap : Nat}, (∀ (i : Nat) (v : Value), vs[i]? = some v → cs[i]? = some v) →
      (slack = none → cs.size = l.length) → (∀ sz, slack = some sz → l.length ≤ cap * sz ∧ cs.size = cap * sz) →
      ∃ ρ', ρ' k = some ⟨w.heap.size, 0, cap⟩ ∧ Rep ρ' st'.look (w.alloc (.cells cs elem)) ∧ Step st.next st'.next ρ st.look w ρ' st'.look (w.alloc (.cells cs elem)) := by
  unfold newRowS at h
  rw [bnd_some] at h
  obtain ⟨c, h1, h2⟩ := h
  refine ⟨fresh_sta h2, fun hr hwf hf vs hd cs cap hc h3 h4 => newBlk_spec h2 hr hwf hf (fun i hi => ?_) h3 h4⟩
  obtain ⟨v, hv, hdv⟩ := denL_get hd (List.getElem?_eq_getElem hi)
  refine ⟨l[i], v, ?_, hdv, hc i v hv⟩
  rw [T.lay_spec h1 i, if_pos ⟨Nat.zero_le _, by omega⟩]
  exact List.getElem?_eq_getElem hi

/-- zeros -/
theorem zeros_get (z : List SVal) : ∀ (n i : Nat), (zeros z n)[i]? = if i < n * z.length then z[i % z.length]? else none
  | 0, i => by simp [zeros]
  | n + 1, i => by
    rw [zeros]
    by_cases h : i < z.length
    · rw [List.getElem?_append_left h, if_pos (by rw [Nat.succ_mul]; omega), Nat.mod_eq_of_lt h]
    · rw [List.getElem?_append_right (by omega), zeros_get z n, Nat.succ_mul, ← Nat.mod_eq_sub_mod (by omega)]
      by_cases h2 : i - z.length < n * z.length
      · rw [if_pos h2, if_pos (by omega)]
      · rw [if_neg h2, if_neg (by omega)]
theorem zeros_length (z : List SVal) : ∀ n, (zeros z n).length = n * z.length
  | 0 => by simp [zeros]
  | n + 1 => by rw [zeros, List.length_append, zeros_length z n, Nat.succ_mul]; omega
theorem zeros_den {ρ : Val} {z : List SVal} {zs : List Value} (hd : denL ρ z = some zs) (n : Nat) : denL ρ (zeros z n) = some (madeCells zs.toArray (n * zs.length)).toList := by
  have hl := denL_length hd
  refine denL_of_get (by simp [madeCells, zeros_length, hl]) fun i s hs => ?_
  rw [zeros_get] at hs
  split at hs
  · rename_i hi
    obtain ⟨v, hv, hdv⟩ := denL_get hd hs
    refine ⟨v, ?_, hdv⟩
    rw [← hl] at hv hi
    simp [madeCells, hi, hv, getElem!_def]
  · cases hs
theorem madeCells_get {zs : Array Value} {n i : Nat} (h : i < n) : (madeCells zs n)[i]? = some (zs[i % zs.size]!) := by simp [madeCells, h]

theorem newZeros_spec [Fam] {st st' : St} {k n : Nat} {z : List SVal} {elem : TypeId} (h : newZeros st z n elem = some (k, st')) :
    Sta st st' ∧ ∀ {ρ : Val} {w : World}, Rep ρ st.look w → Wf st → Free ρ st.next st'.next → ∀ {zs : List Value}, denL ρ z = some zs →
      ∃ ρ', ρ' k = some ⟨w.heap.size, 0, 0⟩ ∧ Rep ρ' st'.look (w.alloc (.cells (madeCells zs.toArray (n * zs.length)) elem)) ∧ Step st.next st'.next ρ st.look w ρ' st'.look (w.alloc (.cells (madeCells zs.toArray (n * zs.length)) elem)) := by
  unfold newZeros at h
  split at h
  · rename_i x
    rw [whn_some] at h
    obtain ⟨hn, h⟩ := h
    refine ⟨fresh_sta h, fun hr hwf hf zs hd => ?_⟩
    obtain ⟨v, us, h1, h2, rfl⟩ := denL_cons.1 hd
    rw [denL_nil] at h2
    subst h2
    refine newBlk_spec h hr hwf hf (fun i hi => ⟨x, v, T.fill_spec x _ i ?_, h1, ?_⟩) (fun _ => by simp [madeCells]) (fun _ e => by cases e)
    · have := Nat.lt_log2_self (n := n + 1)
      show i + 1 < 2 ^ (Nat.log2 (n + 1) + 1)
      omega
    · rw [madeCells_get (by simpa using hi)]
      simp [Nat.mod_one]
  · obtain ⟨h1, h2⟩ := newRow_spec h
    refine ⟨h1, fun hr hwf hf zs hd => ?_⟩
    have hl := denL_length hd
    exact h2 hr hwf hf (zeros_den hd n) (fun i v hv => by simpa using hv) (fun _ => by simp [madeCells, zeros_length, hl]) (fun _ e => by cases e)

/-- cells laid over cells -/
theorem lay_fold : ∀ (vs : List Value) (k : Nat) (cs : Array Value) (off : Nat), off + k + vs.length ≤ cs.size →
    (vs.zipIdx k).foldl (fun cs p => cs.setIfInBounds (off + p.2) p.1) cs = (cs.toList.take (off + k) ++ (vs ++ cs.toList.drop (off + k + vs.length))).toArray
  | [], k, cs, off, h => by simp
  | v :: vs, k, cs, off, h => by
    rw [List.zipIdx_cons, List.foldl_cons, lay_fold vs (k + 1) _ off (by simp at h ⊢; omega)]
    simp only [List.length_cons] at h
    refine congrArg List.toArray ?_
    simp only [Array.toList_setIfInBounds]
    rw [show off + (k + 1) = off + k + 1 from by omega, List.take_add_one, List.take_set_of_le (by omega), List.drop_set_of_lt (by omega)]
    rw [List.getElem?_set_self (by simp; omega)]
    simp [Nat.add_assoc, Nat.add_comm 1]
/-- parts -/
def PairsDen (ρ : Val) : List (Nat × SVal) → List (Nat × Value) → Prop
  | [], [] => True
  | p :: ps, q :: qs => q.1 = p.1 ∧ den ρ p.2 = some q.2 ∧ PairsDen ρ ps qs
  | _, _ => False
theorem fillS_nil (pl : Nat → Option (Nat × Nat)) (cells : List SVal) : fillS pl cells [] = some cells := rfl
theorem fillS_cons (pl : Nat → Option (Nat × Nat)) (cells : List SVal) (p : Nat × SVal) (ps : List (Nat × SVal)) :
    fillS pl cells (p :: ps) = bnd (pl p.1) fun q => whn (Nat.beq (scells p.2).length q.2) (bnd (over cells q.1 (scells p.2)) fun c => fillS pl c ps) := rfl
theorem fill_ok {ρ : Val} (pl : Nat → Option (Nat × Nat)) : ∀ {ps : List (Nat × SVal)} {us : List (Nat × Value)} {cells r : List SVal} {vs : List Value}, fillS pl cells ps = some r → PairsDen ρ ps us → denL ρ cells = some vs →
    ∃ rs, Instr.fill pl vs.toArray us = some rs.toArray ∧ denL ρ r = some rs
  | [], us, cells, r, vs, h, hp, hd => by
    cases us with
    | nil => cases h; exact ⟨vs, rfl, hd⟩
    | cons q qs => exact hp.elim
  | p :: ps, us, cells, r, vs, h, hp, hd => by
    cases us with
    | nil => exact hp.elim
    | cons q qs =>
      obtain ⟨i, u⟩ := q
      obtain ⟨e1, e2, hp⟩ := hp
      simp only at e1 e2
      subst e1
      rw [fillS_cons, bnd_some] at h
      obtain ⟨⟨off, size⟩, h1, h⟩ := h
      rw [whn_some, bnd_some] at h
      obtain ⟨h2, c, h3, h4⟩ := h
      unfold over at h3
      rw [whn_some] at h3
      obtain ⟨h5, h6⟩ := h3
      cases h6
      have h5 : off + (scells p.2).length ≤ cells.length := ble_true h5
      have hs := scells_den e2
      have hl := denL_length hs
      have hlv := denL_length hd
      have h2 : (scells p.2).length = size := beq_true h2
      have hl : u.cells.size = (scells p.2).length := by simpa using hl
      have hd' : denL ρ (cells.take off ++ (scells p.2 ++ cells.drop (off + (scells p.2).length))) = some (vs.take off ++ (u.cells.toList ++ vs.drop (off + (scells p.2).length))) :=
        denL_append.2 ⟨_, _, denL_take hd off, denL_append.2 ⟨_, _, hs, denL_drop hd _, rfl⟩, rfl⟩
      obtain ⟨rs, h7, h8⟩ := fill_ok pl h4 hp hd'
      refine ⟨rs, ?_, h8⟩
      rw [Instr.fill, h1]
      simp only
      rw [if_neg (by simp; omega), ← h7]
      congr 1
      rw [← Array.foldl_toList, Array.toList_zipIdx]
      have := lay_fold u.cells.toList 0 vs.toArray off (by simp; omega)
      simp only [Nat.add_zero, Array.length_toList, hl] at this
      exact this
end Ev
/-
  Operations that lay new rows, or write.
-/
namespace Ev
open Go Go.RowKit


theorem newVal_spec [Fam] {P : Program} {st st' : St} {k : Nat} {s : SVal} {elem : TypeId} (h : newRowS st (scells s) elem none = some (k, st')) :
    Sta st st' ∧ ∀ {ρ : Val} {w : World}, Rep ρ st.look w → Wf st → Free ρ st.next st'.next → ∀ {v : Value}, den ρ s = some v → Ran P (do pure (.pointer (some (← newVar elem v)))) st st' (.ptr k 0) ρ w := by
  obtain ⟨h1, h2⟩ := newRow_spec h
  refine ⟨h1, fun {ρ w} hr hwf hf v hd => ?_⟩
  have hs := scells_den hd
  obtain ⟨ρ', h3, h4, h5⟩ := h2 hr hwf hf hs (cs := v.cells) (cap := 0) (fun i u hu => by simpa using hu) (fun _ => by simpa using denL_length hs) (fun _ e => by cases e)
  refine ⟨ρ', .pointer (some ⟨w.heap.size, 0, none⟩), _, ?_, ⟨by simp [den, h3], h4, h5⟩⟩
  simp [newVar, newRow]
theorem alloc_ok [Fam] {P : Program} {E : Env} (hE : EnvOk P E) {st st' : St} {k : Nat} {z : SVal} {elem : TypeId} (hz : zeroT E elem = some z) (h : newRowS st (scells z) elem none = some (k, st')) :
    Sta st st' ∧ ∀ {ρ : Val} {w : World}, Rep ρ st.look w → Wf st → Free ρ st.next st'.next → Ran P (Instr.alloc elem true (.tuple #[])) st st' (.ptr k 0) ρ w := by
  obtain ⟨h1, h2⟩ := newVal_spec (P := P) h
  refine ⟨h1, fun {ρ w} hr hwf hf => ?_⟩
  obtain ⟨i, zv, _, _, hd, hrun⟩ := zeroT_spec hE hz
  obtain ⟨ρ', v, w', h3, h4⟩ := h2 hr hwf hf (hd ρ)
  refine ⟨ρ', v, w', Eq.trans ?_ h3, h4⟩
  simp only [Instr.alloc, Sem.run_bind, hrun w, Result.andThen_ok]
theorem box_ok [Fam] {P : Program} {st st' : St} {k : Nat} {s : SVal} {elem : TypeId} (h : newRowS st (scells s) elem none = some (k, st')) :
    Sta st st' ∧ ∀ {ρ : Val} {w : World}, Rep ρ st.look w → Wf st → Free ρ st.next st'.next → ∀ {v : Value}, den ρ s = some v → Ran P (Instr.box elem v) st st' (.ptr k 0) ρ w :=
  newVal_spec (P := P) h

theorem build_ok [Fam] {P : Program} {E : Env} (hE : EnvOk P E) {t : TypeId} {z : SVal} (hz : zeroT E t = some z) {d : TypeDesc} (hd : under E t = some d) {ps : List (Nat × SVal)} {s : SVal} (h : buildAt E (scells z) ps d = some s) {ρ : Val} {us : List (Nat × Value)} (hp : PairsDen ρ ps us) :
    ∃ v, den ρ s = some v ∧ ∀ w, (Instr.build t us.toArray).run P w = .ok v w := by
  obtain ⟨it, zv, hit, hzv, hdz, _⟩ := zeroT_spec hE hz
  have hu := under_spec hE hd
  have hs := scells_den (hdz ρ)
  have pl : ∀ (fs : List Field) (l : List (Nat × Nat)), places E fs = some l → fs.mapM (fun f => (P.info? f.type).map fun i => (f.offset, i.size)) = some l := by
    intro fs
    induction fs with
    | nil => intro l hl; cases hl; rfl
    | cons f fs ih =>
      intro l hl
      unfold places at hl
      rw [bnd_some] at hl
      obtain ⟨n, h1, hl⟩ := hl
      rw [bnd_some] at hl
      obtain ⟨l', h2, h3⟩ := hl
      cases h3
      obtain ⟨i, hi, rfl, _⟩ := sizeT_spec hE h1
      simp [List.mapM_cons, hi, ih l' h2]
  unfold buildAt at h
  split at h
  · rename_i fs
    rw [bnd_some] at h
    obtain ⟨l, h1, h⟩ := h
    rw [bnd_some] at h
    obtain ⟨r, h2, h3⟩ := h
    cases h3
    obtain ⟨rs, h4, h5⟩ := fill_ok _ h2 hp hs
    refine ⟨.agg rs.toArray, by simp [den, h5], fun w => run_build w t _ _ ?_⟩
    simp only [Program.built, hit, hu, hzv, pl _ _ h1]
    simpa using h4
  · rename_i n e
    rw [bnd_some] at h
    obtain ⟨size, h1, h⟩ := h
    rw [bnd_some] at h
    obtain ⟨r, h2, h3⟩ := h
    cases h3
    obtain ⟨ie, hie, rfl, _⟩ := sizeT_spec hE h1
    obtain ⟨rs, h4, h5⟩ := fill_ok _ h2 hp hs
    refine ⟨.agg rs.toArray, by simp [den, h5], fun w => run_build w t _ _ ?_⟩
    simp only [Program.built, hit, hu, hzv, hie]
    simpa using h4
  · cases h

theorem buildSlice_ok [Fam] {P : Program} {E : Env} (hE : EnvOk P E) {t elem : TypeId} (ht : elemT E t = some elem) {size len : Nat} (hsz : sizeT E elem = some size) {z : SVal} (hz : zeroT E elem = some z) {ps : List (Nat × SVal)} (hn : Nat.ble (Nat.mul len size) 1000000 = true)
    (hzs : Nat.beq (scells z).length size = true) {l : List SVal} (hfl : fillS (fun i => some (Nat.mul i size, size)) (zeros (scells z) len) ps = some l) {st st' : St} {k : Nat} (h : newRowS st l elem none = some (k, st')) :
    Sta st st' ∧ ∀ {ρ : Val} {w : World}, Rep ρ st.look w → Wf st → Free ρ st.next st'.next → ∀ {us : List (Nat × Value)}, PairsDen ρ ps us → Ran P (Instr.buildSlice t len us.toArray) st st' (.sl k 0 len (.ex len)) ρ w := by
  obtain ⟨h1, h2⟩ := newRow_spec h
  refine ⟨h1, fun {ρ w} hr hwf hf us hp => ?_⟩
  have hu := elemT_spec hE ht
  obtain ⟨ie, hie, rfl, hsr⟩ := sizeT_spec hE hsz
  obtain ⟨ie', zv, hie', hzv, hdz, hzr⟩ := zeroT_spec hE hz
  rw [hie] at hie'
  cases hie'
  have hs := scells_den (hdz ρ)
  have hl := denL_length hs
  have hzs : (scells z).length = ie.size := beq_true hzs
  have hl : zv.cells.size = ie.size := by simpa [hzs] using hl
  obtain ⟨rs, h3, h4⟩ := fill_ok _ hfl hp (zeros_den hs len)
  have hrl := denL_length h4
  obtain ⟨ρ', h5, h6, h7⟩ := h2 hr hwf hf h4 (cs := rs.toArray) (cap := 0) (fun i u hu => by simpa using hu) (fun _ => by simpa using hrl) (fun _ e => by cases e)
  refine ⟨ρ', .slice (some ⟨w.heap.size, 0, none⟩) len len, _, ?_, ⟨by simp [den, h5], h6, h7⟩⟩
  have hn : len * ie.size ≤ 1000000 := ble_true hn
  have hsmall : ¬ len * ie.size > 2 ^ 24 := by have : (2 : Nat) ^ 24 = 16777216 := by decide
                                               omega
  have h3' : Instr.fill (fun i => some (i * ie.size, ie.size)) (madeCells zv.cells (len * ie.size)) us = some rs.toArray := by
    simpa [hl] using h3
  by_cases hpos : len * ie.size = 0
  · have e0 : madeCells zv.cells (len * ie.size) = #[] := by simp [madeCells, hpos]
    rw [e0] at h3'
    have e1 : Array.map (fun _ => (default : Value)) (Array.range 0) = #[] := by simp
    simp [Instr.buildSlice, run_underlying hu, hsr, hpos, newRow, e1, h3']
  · exact run_buildSlice w t elem len us.toArray rs.toArray ie zv hu hie hzv hsmall hpos (by simpa [madeCells] using h3')

theorem makeSlice_ok [Fam] {P : Program} {E : Env} (hE : EnvOk P E) {t elem : TypeId} (ht : elemT E t = some elem) {lv cv : SVal} {li ci : Int} {l c bytes size : Nat} (hci : asI cv = some ci) (hc : idx ci 1000000 = some c) (hli : asI lv = some li) (hl : upTo li c = some l)
    (hb : bytesT E elem = some bytes) (hsz : sizeT E elem = some size) {z : SVal} (hz : zeroT E elem = some z) (hb2 : Nat.ble bytes 4096 = true) (hzs : Nat.beq (scells z).length size = true) {st st' : St} {k : Nat}
    (h : newZeros st (scells z) c elem = some (k, st')) :
    Sta st st' ∧ ∀ {ρ : Val} {w : World}, Rep ρ st.look w → Wf st → Free ρ st.next st'.next → ∀ {ul uc : Value}, den ρ lv = some ul → den ρ cv = some uc → Ran P (Instr.makeSlice t ul uc) st st' (.sl k 0 l (.ex c)) ρ w := by
  obtain ⟨h1, h2⟩ := newZeros_spec h
  refine ⟨h1, fun {ρ w} hr hwf hf ul uc hul huc => ?_⟩
  have hu := elemT_spec hE ht
  obtain ⟨ie, hie, rfl, hsr⟩ := sizeT_spec hE hsz
  obtain ⟨ie', zv, hie', hzv, hdz, hzr⟩ := zeroT_spec hE hz
  rw [hie] at hie'
  cases hie'
  obtain ⟨ib, hib, rfl⟩ := bytesT_spec hE hb
  rw [hie] at hib
  cases hib
  have hs := scells_den (hdz ρ)
  have hzl := denL_length hs
  have hzs : (scells z).length = ie.size := beq_true hzs
  obtain ⟨ρ', h5, h6, h7⟩ := h2 hr hwf hf hs
  obtain ⟨kl, rfl⟩ := asI_den hli hul
  obtain ⟨kc, rfl⟩ := asI_den hci huc
  obtain ⟨rfl, hcc⟩ := idx_spec hc
  obtain ⟨rfl, hll⟩ := upTo_spec hl
  have hb2 : ie.bytes ≤ 4096 := ble_true hb2
  have hbc : (ie.bytes : Int) * (c : Int) ≤ 281474976710656 := by
    have : ie.bytes * c ≤ 4096 * 1000000 := Nat.mul_le_mul hb2 (by omega)
    have h2 : ((ie.bytes * c : Nat) : Int) ≤ 281474976710656 := by omega
    rwa [Int.natCast_mul] at h2
  refine ⟨ρ', .slice (some ⟨w.heap.size, 0, none⟩) l c, _, ?_, ⟨by simp [den, h5], h6, h7⟩⟩
  have := run_make (P := P) w t elem ie zv hu hie hzv kl kc l c (by omega) (by omega) hbc (by omega)
  rw [hzl, hzs]
  simpa using this

theorem makeMap_ok [Fam] {P : Program} {st st' : St} {k : Nat} (h : st.fresh (.map []) = some (k, st')) :
    Sta st st' ∧ ∀ {ρ : Val} {w : World}, Rep ρ st.look w → Wf st → Free ρ st.next st'.next → ∀ t, Ran P (Instr.makeMap t none) st st' (.map k) ρ w := by
  refine ⟨fresh_sta h, fun {ρ w} hr hwf hf t => ?_⟩
  obtain ⟨e1, e2, _⟩ := fresh_spec h
  have hk : ρ k = none := hf k (by omega) (by omega)
  obtain ⟨h3, h4⟩ := fresh_rep h hr hk hwf rfl (.map #[] 0) 0 ⟨#[], 0, alloc_heap_new w _, rfl, fun i p hp => by simp at hp⟩
  refine ⟨_, .map (some w.heap.size), _, ?_, ⟨by simp [den, bind1_self], h3, h4⟩⟩
  simp [Instr.makeMap]

theorem store_ok [Fam] {P : Program} {E : Env} (hE : EnvOk P E) {t : TypeId} {a x : SVal} {p : Nat × Nat} (hp : asPtr a = some p) {size : Nat} (hsz : sizeT E t = some size) (hl : Nat.beq (scells x).length size = true) {st st' : St} (h : storeS st p.1 p.2 (scells x) = some st') {ρ : Val} {w : World}
    (hr : Rep ρ st.look w) {ua ux : Value} (hda : den ρ a = some ua) (hdx : den ρ x = some ux) :
    Sta st st' ∧ ∃ w', (Instr.storeAt t ua ux).run P w = .ok () w' ∧ Rep ρ st'.look w' ∧ Step st.next st'.next ρ st.look w ρ st'.look w' := by
  obtain ⟨l, h4, rfl⟩ := asPtr_den hp hda
  have hs := scells_den hdx
  obtain ⟨i, _, rfl, hsr⟩ := sizeT_spec hE hsz
  obtain ⟨h5, h6, l', w', h7, h8, h9, h10⟩ := storeS_spec hr h hs
  rw [h4] at h7
  cases h7
  have hl : (scells x).length = i.size := beq_true hl
  have hc : ux.cells.size = i.size := by have := denL_length hs; simpa [hl] using this
  refine ⟨h5, w', ?_, h9, h10⟩
  simp only [Instr.storeAt, Instr.sureAddr, Sem.run_bind, Sem.run_pure, Result.andThen_ok, storeVar, hsr w, hc, ne_eq, not_true, if_false, h8 P]
theorem storeS_sta {st st' : St} {k off : Nat} {ls : List SVal} (h : storeS st k off ls = some st') : Sta st st' ∧ st'.next = st.next := by
  unfold storeS at h
  rw [bnd_some] at h
  obtain ⟨b, h1, h2⟩ := h
  rw [whn_some, whn_some, whn_some, bnd_some] at h2
  obtain ⟨hown, hle, hf, c, hc, hp⟩ := h2
  exact ⟨put_sta hp (blk_spec h1), (put_spec hp).1⟩
end Ev
/-
  Appending, copying, maps that are written.
-/
namespace Ev
open Go Go.RowKit

theorem drew_eq (w : World) : w.drew = { w with drawn := w.drawn + 1 } := rfl
theorem Rep.drew [Fam] {ρ : Val} {H : Look} {w : World} (h : Rep ρ H w) : Rep ρ H w.drew := h.draw _
theorem lenS_spec {x : SVal} {n : Nat} (h : lenS x = some n) {ρ : Val} {u : Value} (hx : den ρ x = some u) (P : Program) (w : World) : (Builtin.lenOf u).run P w = .ok n w := by
  unfold lenS at h
  split at h
  · cases h; cases hx; rfl
  · cases h; obtain ⟨l, _, rfl⟩ := den_sl hx; rfl
  · cases h; cases hx; rfl
  · cases h
theorem given_spec [Fam] {st : St} {size n : Nat} {x : SVal} {new : List SVal} (h : given st size n x = some new) {ρ : Val} {w : World} (hr : Rep ρ st.look w) {u : Value} (hx : den ρ x = some u) :
    ∃ news, denL ρ new = some news ∧ news.length = n * size ∧ ∀ P : Program, (Builtin.firstCells size n u).run P w = .ok news.toArray w := by
  unfold given at h
  split at h
  · rw [whn_some] at h
    obtain ⟨h1, h2⟩ := h
    cases h2; cases hx
    cases beq_true h1
    exact ⟨[], rfl, by simp, fun P => rfl⟩
  · rw [whn_some] at h
    obtain ⟨l, h1, rfl⟩ := den_sl hx
    obtain ⟨l', vs, h3, h4, h5, _, h6⟩ := loadS_spec hr h.2
    rw [h1] at h3
    cases h3
    exact ⟨vs, h4, h5, fun P => h6 P⟩
  · rename_i l
    rw [whn_some, whn_some] at h
    obtain ⟨h1, h2, h3⟩ := h
    cases h3; cases hx
    cases beq_true h1
    have h2 : n ≤ l.length := ble_true h2
    refine ⟨(l.take n).map fun b => Value.int .u8 b.toNat, ?_, by simp [h2], fun P => ?_⟩
    · refine denL_of_get (by simp) fun i s hs => ?_
      rw [List.getElem?_map] at hs ⊢
      cases hb : (l.take n)[i]? with
      | none => rw [hb] at hs; cases hs
      | some b => rw [hb] at hs; cases hs; exact ⟨_, rfl, rfl⟩
    · have e : (⟨l.toArray⟩ : ByteArray).extract 0 n = ⟨(l.take n).toArray⟩ := by
        have := bytes_cut l 0 n
        simpa using this
      simp only [Builtin.firstCells, Sem.run_pure, e]
      simp
  · cases h


theorem copyTo_ok [Fam] {P : Program} {E : Env} (hE : EnvOk P E) {t elem : TypeId} (ht : elemT E t = some elem) {size : Nat} (hsz : sizeT E elem = some size) {st st' : St} {d s r : SVal} {a b : Nat} (ha : lenS s = some a) (hb : lenS d = some b) {new : List SVal}
    (hg : given st size (@Bool.rec (fun _ => Nat) b a (Nat.ble a b)) s = some new) (h : copyTo st (@Bool.rec (fun _ => Nat) b a (Nat.ble a b)) new d = some (r, st')) :
    Sta st st' ∧ ∀ {ρ : Val} {w : World}, Rep ρ st.look w → ∀ {ud us : Value}, den ρ d = some ud → den ρ s = some us → ∀ {ts : Array TypeId}, ts[0]? = some t → ∀ ty, Ran P (Builtin.copy_ ts ty #[ud, us]) st st' r ρ w := by
  have hu := elemT_spec hE ht
  obtain ⟨i, _, rfl, hsr⟩ := sizeT_spec hE hsz
  have hmin : @Bool.rec (fun _ => Nat) b a (Nat.ble a b) = Nat.min a b := by
    cases hc : Nat.ble a b with
    | true => have := ble_true hc; show a = min a b; omega
    | false => have := ble_false hc; show b = min a b; omega
  rw [hmin] at hg h
  generalize Nat.min a b = n at hg h hmin
  have hmin' : Nat.min a b = n := hmin ▸ (by
    cases hc : Nat.ble a b with
    | true => have := ble_true hc; show min a b = a; omega
    | false => have := ble_false hc; show min a b = b; omega)
  unfold copyTo at h
  split at h
  · cases h
    refine ⟨Sta.refl _, fun {ρ w} hr ud us hd hs ts ht0 ty => ?_⟩
    obtain ⟨news, h1, h2, h3⟩ := given_spec hg hr hs
    cases hb; cases hd
    have h0 : Nat.min a 0 = n := hmin'
    refine ⟨ρ, .int .i64 (Int.ofNat n), w, ?_, rfl, hr, Step.refl _ _ _ _⟩
    simp only [Builtin.copy_, ht0, List.getElem?_toArray, List.getElem?_cons_zero, List.getElem?_cons_succ, Sem.run_bind, run_underlying hu, Result.andThen_ok, lenS_spec ha hs P w, hsr w, h0, h3 P, Sem.run_pure, goInt]
    rfl
  · rename_i k off m cap
    rw [bnd_some] at h
    obtain ⟨st1, h1, h2⟩ := h
    cases h2
    refine ⟨(storeS_sta h1).1, fun {ρ w} hr ud us hd hs ts ht0 ty => ?_⟩
    obtain ⟨news, h3, h4, h5⟩ := given_spec hg hr hs
    cases hb
    obtain ⟨l, hk, rfl⟩ := den_sl hd
    obtain ⟨_, _, l', w', h7, h8, h9, h10⟩ := storeS_spec hr h1 h3
    rw [hk] at h7
    cases h7
    refine ⟨ρ, .int .i64 (Int.ofNat n), w', ?_, rfl, h9, h10⟩
    simp only [Builtin.copy_, ht0, List.getElem?_toArray, List.getElem?_cons_zero, List.getElem?_cons_succ, Sem.run_bind, run_underlying hu, Result.andThen_ok, lenS_spec ha hs P w, hsr w, hmin', h5 P, h8 P, Sem.run_pure, goInt]
    rfl
  · cases h

theorem manyT_spec {P : Program} {E : Env} (hE : EnvOk P E) {ts : List TypeId} {b : Bool} (h : manyT E ts = some b) : ∃ tx, ts[1]? = some tx ∧ (if b then (∃ e', P.underlying tx = some (.slice e')) ∨ P.underlying tx = some .string else ∃ k, P.underlying tx = some (.int k)) := by
  unfold manyT at h
  rw [bnd_some] at h
  obtain ⟨tx, h1, h⟩ := h
  rw [bnd_some] at h
  obtain ⟨d, h2, h3⟩ := h
  refine ⟨tx, h1, ?_⟩
  have := under_spec hE h2
  unfold manyD at h3
  split at h3
  · cases h3; exact .inl ⟨_, this⟩
  · cases h3; exact .inr this
  · cases h3; exact ⟨_, this⟩
  · cases h3

/-- what an append is given -/
structure Apps (P : Program) (st : St) (elem size n : Nat) (new : List SVal) (ie : TypeInfo) (z : Value) : Prop where
  info : P.info? elem = some ie
  same : ie.size = size
  zero : ie.zero = some z
  zsize : z.cells.size = size
  bytes : ie.bytes ≤ 4096
  few : n ≤ 1000000
  flat : flatL new = true

theorem append_args {ts : Array TypeId} {t tx : TypeId} (h0 : ts[0]? = some t) (h1 : ts[1]? = some tx) (ty : TypeId) (s x : Value) : Builtin.append_ ts ty #[s, x] = Builtin.append_ #[t, tx] ty #[s, x] := by
  unfold Builtin.append_
  simp only [h0, h1, List.getElem?_toArray, List.getElem?_cons_zero, List.getElem?_cons_succ]
/-- there is room -/
theorem app_room {P : Program} {t tx ty e : TypeId} {i : TypeInfo} (ht : P.underlying t = some (.slice e)) (hi : P.info? e = some i) {b off sLen sCap n : Nat} {x : Value} {news : List Value} {w w' : World} (hs : Src P i.size tx x n news w) (hroom : sLen + n ≤ sCap)
    (hst : (storeCells ⟨b, off + sLen * i.size, none⟩ news).run P w = .ok () w') :
    (Builtin.append_ #[t, tx] ty #[.slice (some ⟨b, off, none⟩) sLen sCap, x]).run P w = .ok (.slice (some ⟨b, off, none⟩) (sLen + n) sCap) w' := by
  rcases hs.kind with ⟨e', hk⟩ | hk <;> simp [Builtin.append_, run_underlying ht, run_underlying hk, Go.sizeOf, typeInfo, hi, hs.len, hroom, hs.cells, Addr.add_lit, hst]
theorem src_of [Fam] {P : Program} {st : St} {size n : Nat} {x : SVal} {new : List SVal} (hg : given st size n x = some new) (hn : lenS x = some n) (hf : flatL new = true) {ρ : Val} {w : World} (hr : Rep ρ st.look w) {u : Value} (hx : den ρ x = some u) {tx : TypeId}
    (hk : (∃ e', P.underlying tx = some (.slice e')) ∨ P.underlying tx = some .string) : ∃ news, denL ρ new = some news ∧ news.length = n * size ∧ Src P size tx u n news w := by
  obtain ⟨news, h1, h2, h3⟩ := given_spec hg hr hx
  obtain ⟨news', h1', _, h3'⟩ := given_spec hg hr.drew hx
  rw [h1] at h1'
  cases h1'
  exact ⟨news, h1, h2, hk, fun w' => lenS_spec hn hx P w', h3 P, h3' P, h2, flatL_den hf h1⟩

theorem grow_fits {need old bytes : Nat} (h : old < need) (hn : need ≤ 2000000) (hb : bytes ≤ 4096) : Builtin.nextslicecap need old * bytes ≤ 281474976710656 := by
  refine growslice_fits h ?_
  have := Nat.mul_le_mul hn hb
  omega
/-- the cells of a row that has grown -/
theorem grown_cells {zc : Array Value} {size need cap : Nat} {xs : List Value} (hz : zc.size = size) (hx : xs.length = need * size) (hc : need ≤ cap) : (xs.toArray ++ Builtin.zeroCells zc (cap - need)).size = cap * size := by
  rw [Array.size_append, size_zeroCells, List.size_toArray, hx, hz, ← Nat.add_mul]
  congr 1
  omega

theorem appNone_ok [Fam] {P : Program} {st st' : St} {t tx e : TypeId} {ie : TypeInfo} (ht : P.underlying t = some (.slice e)) (hi : P.info? e = some ie) {k off len : Nat} {cap : Cap} {r : SVal} (h : appNone st ie.size k off len cap = some (r, st')) :
    st' = st ∧ ∀ {ρ : Val} {w : World}, Rep ρ st.look w → ∀ {us ux : Value} {news : List Value}, den ρ (.sl k off len cap) = some us → Src P ie.size tx ux 0 news w → ∀ ty, Ran P (Builtin.append_ #[t, tx] ty #[us, ux]) st st r ρ w := by
  unfold appNone at h
  have fin : ∀ {ρ : Val} {w : World} {L : Loc} {c : Nat} {ux : Value} {news : List Value} (ty : TypeId), Src P ie.size tx ux 0 news w → len ≤ c →
      (Builtin.append_ #[t, tx] ty #[.slice (some ⟨L.blk, L.base + off, none⟩) len c, ux]).run P w = .ok (.slice (some ⟨L.blk, L.base + off, none⟩) len c) w := by
    intro ρ w L c ux news ty hs hc
    have hn : news = [] := List.length_eq_zero_iff.1 (by rw [hs.newsLen]; simp)
    subst hn
    have := app_room (w' := w) ht hi (b := L.blk) (off := L.base + off) (sLen := len) (sCap := c) (ty := ty) hs (by omega) rfl
    simpa using this
  cases cap with
  | ex c =>
    have h : whn (Nat.ble len c) (some (SVal.sl k off len (.ex c), st)) = some (r, st') := h
    rw [whn_some] at h
    obtain ⟨h1, h2⟩ := h
    cases h2
    refine ⟨rfl, fun {ρ w} hr us ux news hd hs ty => ?_⟩
    have hd' := hd
    obtain ⟨L, hk, rfl⟩ := den_sl hd
    exact Ran.same hr (fin (ρ := ρ) ty hs (ble_true h1)) hd'
  | rest o =>
    have h : bnd (st.blk k) (fun b => whn (restOk b ie.size off len o) (some (SVal.sl k off len (.rest o), st))) = some (r, st') := h
    rw [bnd_some] at h
    obtain ⟨b, h1, h⟩ := h
    rw [whn_some] at h
    obtain ⟨h2, h3⟩ := h
    cases h3
    refine ⟨rfl, fun {ρ w} hr us ux news hd hs ty => ?_⟩
    have hd' := hd
    obtain ⟨L, hk, rfl⟩ := den_sl hd
    have := rest_cap h2 h1 hr hk
    exact Ran.same hr (fin (ρ := ρ) (c := L.cap - o) ty hs (by omega)) hd'

/-- a new row, behind a draw -/
theorem appGrow_ok [Fam] {P : Program} {st st' : St} {t tx e : TypeId} {ie : TypeInfo} {z : Value} {n : Nat} {new old : List SVal} (ht : P.underlying t = some (.slice e)) (ha : Apps P st e ie.size n new ie z) {k : Nat} (h : newRowS st (old ++ new) e (some ie.size) = some (k, st')) :
    ∀ {ρ : Val} {w : World}, Rep ρ st.look w → Wf st → Free ρ st.next st'.next → ∀ {base : Option Addr} {len c : Nat} {olds news : List Value} {ux : Value}, len ≤ 1000000 → c < len + n → denL ρ old = some olds → olds.length = len * ie.size →
      denL ρ new = some news → Src P ie.size tx ux n news w → (Builtin.firstCells ie.size len (.slice base len c)).run P w.drew = .ok olds.toArray w.drew → ∀ ty, Ran P (Builtin.append_ #[t, tx] ty #[.slice base len c, ux]) st st' (.sl k 0 (len + n) (.rest 0)) ρ w := by
  intro ρ w hr hwf hf base len c olds news ux hlen hc hold hol hnew hs hfirst ty
  obtain ⟨h1, h2⟩ := newRow_spec h
  have hge := grownCap_ge w (len + n) c e
  have hxl : (olds ++ news).length = (len + n) * ie.size := by rw [List.length_append, hol, hs.newsLen, Nat.add_mul]
  have hsz := grown_cells ha.zsize hxl hge
  have hd := denL_append.2 ⟨_, _, hold, hnew, rfl⟩
  have hdl := denL_length hd
  obtain ⟨ρ', h3, h4, h5⟩ := h2 hr.drew hwf hf hd (cs := (olds ++ news).toArray ++ Builtin.zeroCells z.cells (grownCap w (len + n) c e - (len + n))) (cap := grownCap w (len + n) c e)
    (fun i v hv => by
      have hi : i < (olds ++ news).length := (List.getElem?_eq_some_iff.1 hv).1
      rw [Array.getElem?_append_left (by simpa using hi)]
      simpa using hv)
    (fun e => by cases e) (fun sz e => by
      cases e
      refine ⟨?_, hsz⟩
      rw [← hdl, hxl]
      exact Nat.mul_le_mul_right _ hge)
  refine ⟨ρ', .slice (some ⟨w.heap.size, 0, none⟩) (len + n) (grownCap w (len + n) c e), _,
    run_append_grow_src w t tx ty e ie z ht ha.info ha.zero base len c olds hfirst ux n news hs hc (by have := ha.few; omega) (grow_fits hc (by have := ha.few; omega) ha.bytes), ?_, h4, ?_⟩
  · simp [den, h3]
  · exact (Step.drawn st.next ρ st.look w (w.drawn + 1)).trans h5 (Nat.le_refl _) h1.next

theorem appNew_ok [Fam] {P : Program} {st st' : St} {t tx e : TypeId} {ie : TypeInfo} {z : Value} {n : Nat} {new : List SVal} (ht : P.underlying t = some (.slice e)) (ha : Apps P st e ie.size n new ie z) {r : SVal} (h : appNew st e ie.size n new = some (r, st')) :
    Sta st st' ∧ ∀ {ρ : Val} {w : World}, Rep ρ st.look w → Wf st → Free ρ st.next st'.next → ∀ {ux : Value} {news : List Value}, denL ρ new = some news → Src P ie.size tx ux n news w → ∀ ty, Ran P (Builtin.append_ #[t, tx] ty #[.slice none 0 0, ux]) st st' r ρ w := by
  unfold appNew at h
  cases hn : Nat.beq n 0 with
  | true =>
    rw [hn] at h
    have h : some (SVal.nilSl, st) = some (r, st') := h
    cases h
    cases beq_true hn
    refine ⟨Sta.refl _, fun {ρ w} hr hwf hf ux news hd hs ty => Ran.same (v := .slice none 0 0) hr ?_ rfl⟩
    rcases hs.kind with ⟨e', hk⟩ | hk <;> simp [Builtin.append_, run_underlying ht, run_underlying hk, Go.sizeOf, typeInfo, ha.info, hs.len, hs.cells]
  | false =>
    rw [hn] at h
    have h : bnd (newRowS st new e (some ie.size)) (fun p => some (SVal.sl p.1 0 n (.rest 0), p.2)) = some (r, st') := h
    rw [bnd_some] at h
    obtain ⟨⟨k, st1⟩, h1, h2⟩ := h
    cases h2
    have hn := beq_false hn
    refine ⟨(newRow_spec h1).1, fun {ρ w} hr hwf hf ux news hd hs ty => ?_⟩
    have := appGrow_ok (tx := tx) (old := []) (olds := []) ht ha h1 hr hwf hf (base := none) (len := 0) (c := 0) (by omega) (by omega) rfl (by simp) hd hs rfl ty
    simpa using this

theorem appEx_ok [Fam] {P : Program} {st st' : St} {t tx e : TypeId} {ie : TypeInfo} {z : Value} {n : Nat} {new : List SVal} (ht : P.underlying t = some (.slice e)) (ha : Apps P st e ie.size n new ie z) {k off len c : Nat} (hlen : len ≤ 1000000) {r : SVal}
    (h : appEx st e ie.size n new k off len c = some (r, st')) :
    Sta st st' ∧ ∀ {ρ : Val} {w : World}, Rep ρ st.look w → Wf st → Free ρ st.next st'.next → ∀ {us ux : Value} {news : List Value}, den ρ (.sl k off len (.ex c)) = some us → denL ρ new = some news → Src P ie.size tx ux n news w → ∀ ty, Ran P (Builtin.append_ #[t, tx] ty #[us, ux]) st st' r ρ w := by
  unfold appEx at h
  cases hn : Nat.ble (Nat.add len n) c with
  | true =>
    rw [hn] at h
    have h : bnd (storeS st k (Nat.add off (Nat.mul len ie.size)) new) (fun st' => some (SVal.sl k off (Nat.add len n) (.ex c), st')) = some (r, st') := h
    rw [bnd_some] at h
    obtain ⟨st1, h1, h2⟩ := h
    cases h2
    refine ⟨(storeS_sta h1).1, fun {ρ w} hr hwf hf us ux news hd hdn hs ty => ?_⟩
    obtain ⟨L, hk, rfl⟩ := den_sl hd
    obtain ⟨_, _, l', w', h7, h8, h9, h10⟩ := storeS_spec hr h1 hdn
    rw [hk] at h7
    cases h7
    have := app_room (ty := ty) (b := L.blk) (off := L.base + off) (sLen := len) (sCap := c) ht ha.info hs (ble_true hn) (by rw [← h8 P]; simp [Nat.add_assoc])
    exact ⟨ρ, _, w', this, by simp [den, hk], h9, h10⟩
  | false =>
    rw [hn] at h
    have h : bnd (loadS st k off (Nat.mul len ie.size)) (fun old => bnd (newRowS st (old ++ new) e (some ie.size)) fun p => some (SVal.sl p.1 0 (Nat.add len n) (.rest 0), p.2)) = some (r, st') := h
    rw [bnd_some] at h
    obtain ⟨old, h1, h⟩ := h
    rw [bnd_some] at h
    obtain ⟨⟨k', st1⟩, h2, h3⟩ := h
    cases h3
    have hn := ble_false hn
    refine ⟨(newRow_spec h2).1, fun {ρ w} hr hwf hf us ux news hd hdn hs ty => ?_⟩
    obtain ⟨L, hk, rfl⟩ := den_sl hd
    obtain ⟨l', vs, h3, h4, h5, _, h6⟩ := loadS_spec hr.drew h1
    rw [hk] at h3
    cases h3
    exact appGrow_ok (tx := tx) (base := some ⟨L.blk, L.base + off, none⟩) ht ha h2 hr hwf hf hlen hn h4 h5 hdn hs (h6 P) ty
end Ev
