import Derived.Test.YtpgkdhhlcpgjcaaGreatDoorEnvO
import Derived.Test.YtpgkdhhlcpgjcaaGreatDoorFctA
import Derived.Test.YtpgkdhhlcpgjcaaGreatDoorCollectO
import Derived.Test.YtpgkdhhlcpgjcaaGreatDoorBuildO
import Derived.RangeFuncNested
import Derived.RangeFuncCalls
import Derived.RangeFuncLeaves
import Derived.OwnWalkIn
import Derived.TacticsInMore
import Derived.LoopNIn
import Derived.LoopIn
/-
  Calls that the evaluator takes by contracts: Collect over gaps, copyCheck and String of a Builder.
-/
namespace Go.Proofs.YtpgkdhhlcpgjcaaGreatDoor
open Ev Go.RowKit
set_option linter.unusedSectionVars false
variable [Fam]
set_option maxRecDepth 100000

noncomputable def asI64 : SVal → M Int
  | .int .i64 n => some n
  | _ => none
noncomputable def fnS : SVal → M FuncId
  | .func (.func f) [] [] => some f
  | _ => none
noncomputable def spansS : List SVal → M (List Sp)
  | [] => some []
  | .int .i64 a :: .int .i64 b :: r => bnd (spansS r) fun l => some ((a, b) :: l)
  | _ => none
noncomputable def spansOf (st : St) : SVal → M (List Sp)
  | .nilSl => some []
  | .sl k off n _ => bnd (loadS st k off (Nat.mul n 2)) spansS
  | _ => none
noncomputable def inBd (a : Int) : Bool := andB (Bool.not (ltI a (-2000000000000000))) (Bool.not (ltI 2000000000000000 a))
noncomputable def bddL (l : List Sp) : Bool := l.all fun s => andB (inBd s.1) (inBd s.2)
noncomputable def flatS : List Sp → List SVal
  | [] => []
  | s :: r => .int .i64 s.1 :: .int .i64 s.2 :: flatS r
noncomputable def putS (st : St) (l : List Sp) : M (SVal × St) :=
  match l with
  | [] => some (.nilSl, st)
  | _ :: _ => bnd (newRowS st (flatS l) 57 (some 2)) fun p => some (.sl p.1 0 l.length (.rest 0), p.2)
noncomputable def gapsF (f g : FuncId) (l : List Sp) (lo hi : Int) : M (List Sp) :=
  Bool.rec (Bool.rec none (some (pgaps afterI beforeI l lo hi)) (andB (Nat.beq f 107) (Nat.beq g 174)))
    (some (pgaps (fun u => u + 1) (fun u => u - 1) l lo hi)) (andB (Nat.beq f 106) (Nat.beq g 173))
noncomputable def ownBox (st : St) (k _n : Nat) : M Unit := bnd (st.blk k) fun b => whn b.own (some ())
noncomputable def collectS (args : List SVal) (st : St) : M (SVal × St) :=
  match args with
  | [.func (.func g) [] [.ptr k5 0, .ptr k4 0, .ptr k7 0, .ptr k6 0]] =>
    whn (Nat.beq g 203) <| bnd (ownBox st k5 2) fun _ => bnd (ownBox st k4 1) fun _ => bnd (ownBox st k7 1) fun _ => bnd (ownBox st k6 1) fun _ =>
    bnd (load1 st k5 0) fun lo => bnd (asI64 lo) fun lo => bnd (load1 st k5 1) fun hi => bnd (asI64 hi) fun hi => bnd (load1 st k4 0) fun s => bnd (spansOf st s) fun l =>
    bnd (load1 st k6 0) fun f => bnd (fnS f) fun f => bnd (load1 st k7 0) fun g => bnd (fnS g) fun g =>
    whn (bddL l) <| whn (inBd lo) <| whn (Nat.ble l.length 1000000) <| bnd (gapsF f g l lo hi) fun res => putS st res
  | _ => none

theorem spansS_cons {a b : SVal} {r : List SVal} {l : List Sp} (h : spansS (a :: b :: r) = some l) : ∃ x y l', a = .int .i64 x ∧ b = .int .i64 y ∧ spansS r = some l' ∧ l = (x, y) :: l' := by
  unfold spansS at h
  split at h
  · rename_i e; cases e
  · rename_i x y r' e
    cases e
    rw [bnd_some] at h
    obtain ⟨l', h1, h2⟩ := h
    cases h2
    exact ⟨x, y, l', rfl, rfl, h1, rfl⟩
  · cases h
theorem spansS_den {ρ : Val} : ∀ {ss : List SVal} {l : List Sp} {vs : List Value}, spansS ss = some l → denL ρ ss = some vs → vs = spc l ∧ ss.length = l.length * 2
  | [], l, vs, h, hd => by
    cases h
    rw [denL_nil] at hd
    exact ⟨hd, rfl⟩
  | [a], l, vs, h, hd => by
    unfold spansS at h
    split at h
    · rename_i e; cases e
    · rename_i e; cases e
    · cases h
  | a :: b :: r, l, vs, h, hd => by
    obtain ⟨x, y, l', rfl, rfl, h1, rfl⟩ := spansS_cons h
    obtain ⟨v, l1, h2, h3, rfl⟩ := denL_cons.1 hd
    obtain ⟨v', l2, h4, h5, rfl⟩ := denL_cons.1 h3
    cases h2
    cases h4
    obtain ⟨h6, h7⟩ := spansS_den h1 h5
    subst h6
    exact ⟨rfl, by simp [h7]; omega⟩
theorem spc_cell {l : List Sp} {i : Nat} (hi : i < l.length * 2) : ∃ v, (spc l)[i]? = some v := by
  have := spc_length l
  exact ⟨_, List.getElem?_eq_getElem (by omega)⟩
theorem spansOf_at {ρ : Val} {st : St} {w : World} (hr : Rep ρ st.look w) {s : SVal} {l : List Sp} (h : spansOf st s = some l) {v : Value} (hd : den ρ s = some v) :
    ∃ A c, v = .slice A l.length c ∧ SlAt w w.heap.size A l := by
  unfold spansOf at h
  split at h
  · cases h
    cases hd
    exact ⟨none, 0, rfl, SlAt.nil _ _ _⟩
  · rename_i k off n cap
    rw [bnd_some] at h
    obtain ⟨ss, h1, h2⟩ := h
    obtain ⟨lc, vs, h3, h4, h5, h6, _⟩ := loadS_spec hr h1
    obtain ⟨h7, h8⟩ := spansS_den h2 h4
    have hn : n = l.length := by
      have h9 := denL_length h4
      have h5 : vs.length = n * 2 := h5
      omega
    subst hn
    have hA : ∃ c, v = .slice (some ⟨lc.blk, lc.base + off, none⟩) l.length c := by
      cases cap <;> (simp only [den, h3, Option.map_some, Option.some.injEq] at hd; exact ⟨_, hd.symm⟩)
    obtain ⟨c, rfl⟩ := hA
    refine ⟨_, c, rfl, fun hl => ⟨lc.blk, lc.base + off, rfl, ?_, fun k' s hs => ?_⟩⟩
    · have h0 : 0 < l.length := List.length_pos_iff.2 hl
      obtain ⟨u, hu⟩ := spc_cell (l := l) (i := 0) (by omega)
      exact World.block_lt_of_cell? _ _ (h6 0 u (by rw [h7]; exact hu))
    · have hg := spc_get l k' s hs
      exact ⟨by have := h6 (k' * 2) _ (by rw [h7]; exact hg.1); rw [← this], by have := h6 (k' * 2 + 1) _ (by rw [h7]; exact hg.2); rw [← this]; rfl⟩
  · cases h
theorem inBd_spec {a : Int} (h : inBd a = true) : -2000000000000000 ≤ a ∧ a ≤ 2000000000000000 := by
  obtain ⟨h1, h2⟩ := andB_true h
  rw [ltI_eq] at h1 h2
  simp at h1 h2
  exact ⟨h1, h2⟩
theorem bddL_spec {l : List Sp} (h : bddL l = true) : Bdd l := fun s hs => by
  obtain ⟨h1, h2⟩ := andB_true (List.all_eq_true.1 h s hs)
  have := inBd_spec h1
  have := inBd_spec h2
  omega
theorem ownBox_spec {st : St} {k n : Nat} (h : ownBox st k n = some ()) : ∃ b, st.look k = some (.cells b) ∧ b.own = true := by
  unfold ownBox at h
  rw [bnd_some] at h
  obtain ⟨b, h1, h2⟩ := h
  rw [whn_some] at h2
  exact ⟨b, blk_spec h1, h2.1⟩
theorem own_base {ρ : Val} {st : St} {w : World} (hr : Rep ρ st.look w) {k : Nat} {b : Blk} (h : st.look k = some (.cells b)) (ho : b.own = true) : ∃ l, ρ k = some l ∧ l.base = 0 ∧ l.blk < w.heap.size := by
  obtain ⟨l, h1, h2⟩ := hr.lies k _ h
  have hlt := ObjAt.lt (o := .cells b) h2
  obtain ⟨cs, e, fz, h3, h4, h5, h6⟩ := h2
  exact ⟨l, h1, (h5 ho).1, hlt⟩
theorem fnS_den {ρ : Val} {s : SVal} {f : FuncId} (h : fnS s = some f) {v : Value} (hd : den ρ s = some v) : v = .func (.func f) #[] #[] := by
  unfold fnS at h
  split at h
  · cases h; cases hd; rfl
  · cases h
theorem asI64_den {ρ : Val} {s : SVal} {n : Int} (h : asI64 s = some n) {v : Value} (hd : den ρ s = some v) : v = .int .i64 n := by
  unfold asI64 at h
  split at h
  · cases h; cases hd; rfl
  · cases h
theorem flatS_den (ρ : Val) : ∀ l : List Sp, denL ρ (flatS l) = some (spc l)
  | [] => rfl
  | _ :: l => denL_cons.2 ⟨_, _, rfl, denL_cons.2 ⟨_, _, rfl, flatS_den ρ l, rfl⟩, rfl⟩
theorem putS_good {st st' : St} {s : SVal} {res : List Sp} (h : putS st res = some (s, st')) : Sta st st' ∧ ∀ {ρ : Val} {w w' : World} {r : Value}, Rep ρ st.look w → Wf st → Free ρ st.next st'.next → Stands w w' →
    Own w' w.heap.size r res → (res = [] → r = .slice none 0 0) → ∃ ρ', Ev.Good st st' s ρ w ρ' r w' := by
  unfold putS at h
  cases res with
  | nil =>
    cases h
    exact ⟨Sta.refl _, fun {ρ w w' r} hr hwf hf hw ho h0 => ⟨ρ, by rw [h0 rfl]; rfl, stands_rep hr hw, stands_step _ _ _ hw⟩⟩
  | cons x l =>
    have h : bnd (newRowS st (flatS (x :: l)) 57 (some 2)) (fun p => some (SVal.sl p.1 0 (x :: l).length (.rest 0), p.2)) = some (s, st') := h
    rw [bnd_some] at h
    obtain ⟨p, h1, h2⟩ := h
    cases h2
    obtain ⟨k, st'⟩ := p
    refine ⟨(newRow_spec h1).1, fun {ρ w w' r} hr hwf hf hw ho _ => ?_⟩
    unfold newRowS at h1
    rw [bnd_some] at h1
    obtain ⟨c, h3, h4⟩ := h1
    obtain ⟨e1, e2, _⟩ := fresh_spec h4
    have hf : Free ρ st.next st'.next := hf
    have hk : ρ k = none := hf k (by omega) (by omega)
    obtain ⟨ho1, ho2⟩ := ho
    rcases ho2 with ⟨_, h0⟩ | ⟨g, cap, cur, rfl, hg, hcells, hn, hmax, hcs, htake⟩
    · simp at h0
    have hden := flatS_den ρ (x :: l)
    have hlen := denL_length hden
    have hspc := spc_length (x :: l)
    have hrow : RowAt (bind1 ρ k ⟨g, 0, cap⟩) ⟨(flatS (x :: l)).length, c, 57, some 2, true⟩ ⟨g, 0, cap⟩ w' := by
      refine ⟨cur, 57, (0, 0), hcells, fun i hi => ?_, fun _ => ⟨rfl, rfl, rfl, fun e => by cases e⟩, fun sz hsz => ?_⟩
      · have hi : i < (flatS (x :: l)).length := hi
        obtain ⟨v, hv, hdv⟩ := denL_get hden (List.getElem?_eq_getElem hi)
        refine ⟨(flatS (x :: l))[i], v, ?_, den_le (bind1_le _ hk) _ _ hdv, ?_⟩
        · show c.get i = _
          rw [T.lay_spec h3 i, if_pos ⟨Nat.zero_le _, by omega⟩]
          exact List.getElem?_eq_getElem hi
        · show cur[0 + i]? = some v
          rw [Nat.zero_add, ← Array.getElem?_toList]
          rw [← htake] at hv
          rw [List.getElem?_take] at hv
          split at hv
          · exact hv
          · cases hv
      · cases hsz
        exact ⟨by show (flatS (x :: l)).length ≤ cap * 2; omega, fun _ => hcs⟩
    obtain ⟨h5, h6⟩ := fresh_rep2 h4 hr hk rfl hw ⟨g, 0, cap⟩ hg hrow
    exact ⟨_, by simp only [den, bind1_self]; simp, h5, h6⟩

theorem body_collect : Tryz.f171.body.isSome = true := by kernel_rfl
theorem collectS_ok : CallAt Tryz.prog 171 collectS := by
  intro args st s st' h
  unfold collectS at h
  split at h
  · rename_i g k5 k4 k7 k6
    rw [whn_some, bnd_some] at h
    obtain ⟨hg, _, o5, h⟩ := h
    rw [bnd_some] at h
    obtain ⟨_, o4, h⟩ := h
    rw [bnd_some] at h
    obtain ⟨_, o7, h⟩ := h
    rw [bnd_some] at h
    obtain ⟨_, o6, h⟩ := h
    rw [bnd_some] at h
    obtain ⟨slo, a1, h⟩ := h
    rw [bnd_some] at h
    obtain ⟨lo, a2, h⟩ := h
    rw [bnd_some] at h
    obtain ⟨shi, a3, h⟩ := h
    rw [bnd_some] at h
    obtain ⟨hi, a4, h⟩ := h
    rw [bnd_some] at h
    obtain ⟨ss, a5, h⟩ := h
    rw [bnd_some] at h
    obtain ⟨l, a6, h⟩ := h
    rw [bnd_some] at h
    obtain ⟨sf, a7, h⟩ := h
    rw [bnd_some] at h
    obtain ⟨f, a8, h⟩ := h
    rw [bnd_some] at h
    obtain ⟨sg, a9, h⟩ := h
    rw [bnd_some] at h
    obtain ⟨g', a10, h⟩ := h
    rw [whn_some, whn_some, whn_some, bnd_some] at h
    obtain ⟨b1, b2, b3, res, b4, h⟩ := h
    obtain ⟨c1, c2⟩ := putS_good h
    have hg := beq_true hg
    subst hg
    refine ⟨c1, fun {ρ w} hr hwf hfree vs hvs => ?_⟩
    obtain ⟨B5, d5, e5⟩ := ownBox_spec o5
    obtain ⟨B4, d4, e4⟩ := ownBox_spec o4
    obtain ⟨B7, d7, e7⟩ := ownBox_spec o7
    obtain ⟨B6, d6, e6⟩ := ownBox_spec o6
    obtain ⟨l5, f5, z5, t5⟩ := own_base hr d5 e5
    obtain ⟨l4, f4, z4, t4⟩ := own_base hr d4 e4
    obtain ⟨l7, f7, z7, t7⟩ := own_base hr d7 e7
    obtain ⟨l6, f6, z6, t6⟩ := own_base hr d6 e6
    have hargs : vs = [.func (.func 203) #[] #[.pointer (some ⟨l5.blk, 0, none⟩), .pointer (some ⟨l4.blk, 0, none⟩), .pointer (some ⟨l7.blk, 0, none⟩), .pointer (some ⟨l6.blk, 0, none⟩)]] := by
      simp only [denL, den, f5, f4, f7, f6, z5, z4, z7, z6, Option.map_some, Option.bind_some, Option.some.injEq] at hvs
      rw [← hvs]
    subst hargs
    obtain ⟨m5, v5, g5, n5, p5⟩ := load1_spec hr a1
    rw [f5] at g5; cases g5
    obtain ⟨m5, v5', g5, n5', p5'⟩ := load1_spec hr a3
    rw [f5] at g5; cases g5
    obtain ⟨m4, v4, g4, n4, p4⟩ := load1_spec hr a5
    rw [f4] at g4; cases g4
    obtain ⟨m6, v6, g6, n6, p6⟩ := load1_spec hr a7
    rw [f6] at g6; cases g6
    obtain ⟨m7, v7, g7, n7, p7⟩ := load1_spec hr a9
    rw [f7] at g7; cases g7
    rw [z5] at p5 p5'
    rw [z4] at p4
    rw [z6] at p6
    rw [z7] at p7
    have q5 := asI64_den a2 n5
    have q5' := asI64_den a4 n5'
    have q6 := fnS_den a8 n6
    have q7 := fnS_den a10 n7
    subst q5 q5' q6 q7
    obtain ⟨A, c, rfl, hA⟩ := spansOf_at hr a6 n4
    have hbd := bddL_spec b1
    have hlo := inBd_spec b2
    have hle := ble_true b3
    obtain ⟨hf1, hf2⟩ := env_ok.funcs 171 Tryz.f171 (by kernel_rfl)
    refine call1_of_calls hf1 hf2 body_collect ?_
    have b4 : @Bool.rec (fun _ => M (List Sp)) (@Bool.rec (fun _ => M (List Sp)) none (some (pgaps afterI beforeI l lo hi)) (andB (Nat.beq f 107) (Nat.beq g' 174)))
      (some (pgaps (fun u => u + 1) (fun u => u - 1) l lo hi)) (andB (Nat.beq f 106) (Nat.beq g' 173)) = some res := b4
    cases hw1 : andB (Nat.beq f 106) (Nat.beq g' 173) with
    | true =>
      rw [hw1] at b4
      have b4 : some (pgaps (fun u => u + 1) (fun u => u - 1) l lo hi) = some res := b4
      obtain ⟨r1, r2⟩ := andB_true hw1
      have r1 := beq_true r1
      have r2 := beq_true r2
      cases b4
      subst r1 r2
      refine (collect_wholeO w l4.blk l5.blk l6.blk l7.blk A c l lo hi hle hbd hlo t4 t5 t6 t7 p4 p5 p5' p6 p7 hA).mono ?_
      rintro e w' ⟨r, rfl, ⟨h1, h2⟩, hE⟩
      exact ⟨r, rfl, c2 hr hwf hfree (Stands.of_below hE) h1 h2⟩
    | false =>
      rw [hw1] at b4
      cases hw2 : andB (Nat.beq f 107) (Nat.beq g' 174) with
      | false => rw [hw2] at b4; cases b4
      | true =>
        rw [hw2] at b4
        have b4 : some (pgaps afterI beforeI l lo hi) = some res := b4
        obtain ⟨r1, r2⟩ := andB_true hw2
        have r1 := beq_true r1
        have r2 := beq_true r2
        cases b4
        subst r1 r2
        refine (collect_afterO w l4.blk l5.blk l6.blk l7.blk A c l lo hi hle hbd hlo t4 t5 t6 t7 p4 p5 p5' p6 p7 hA).mono ?_
        rintro e w' ⟨r, rfl, ⟨h1, h2⟩, hE⟩
        exact ⟨r, rfl, c2 hr hwf hfree (Stands.of_below hE) h1 h2⟩
  · cases h

/-! strings.Builder -/
noncomputable def copyC (args : List SVal) (st : St) : M (SVal × St) :=
  match args with
  | [.ptr k 0] => bnd (st.blk k) fun b => whn b.own <| whn (Nat.beq b.n 2) <| whn (Nat.beq b.elem 277) <| whn (oEq b.slack none) <| bnd (b.c.get 0) fun v =>
    match v with
    | .nilPtr => bnd (storeS st k 0 [.ptr k 0]) fun st' => some (.tup [], st')
    | _ => none
  | _ => none
theorem body_copy : Tryz.f258.body.isSome = true := by kernel_rfl
theorem copyC_ok : CallAt Tryz.prog 258 copyC := by
  intro args st s st' h
  unfold copyC at h
  split at h
  · rename_i k
    rw [bnd_some] at h
    obtain ⟨b, h1, h⟩ := h
    rw [whn_some, whn_some, whn_some, whn_some, bnd_some] at h
    obtain ⟨h2, h3, h4, h5, v, h6, h⟩ := h
    have h3 := beq_true h3
    have h4 := beq_true h4
    have h5 := oEq_ok h5
    split at h
    · rw [bnd_some] at h
      obtain ⟨st1, h7, h8⟩ := h
      cases h8
      have hlk := blk_spec h1
      refine ⟨(storeS_sta h7).1, fun {ρ w} hr hwf hfree vs hvs => ?_⟩
      obtain ⟨l, a1, a2⟩ := hr.lies k _ hlk
      obtain ⟨cs, e, fz, b1, b2, b3, b4⟩ := a2
      obtain ⟨c1, c2, c3, c4⟩ := b3 h2
      subst c2
      have c4 := c4 h5
      obtain ⟨s0, v0, d1, d2, d3⟩ := b2 0 (by omega)
      rw [h6] at d1
      cases d1
      cases d2
      rw [c1] at d3
      have hcell : w.cell? ⟨l.blk, 0, none⟩ = some (.pointer none) := by simp only [World.cell?, b1]; exact d3
      have hargs : vs = [.pointer (some ⟨l.blk, 0, none⟩)] := by
        simp only [denL, den, a1, c1, Option.map_some, Option.bind_some, Option.some.injEq] at hvs
        rw [← hvs]
      subst hargs
      obtain ⟨hf1, hf2⟩ := env_ok.funcs 258 Tryz.f258 (by kernel_rfl)
      refine call1_of_calls hf1 hf2 body_copy ?_
      have hsh : w.shape? l.blk = some (277, 2) := by
        simp only [World.shape?, b1]
        rw [c3, h4, c4, h3]
      refine (copyCheck_fresh l.blk w hcell hsh (by simp [World.frozen?, b1])).mono ?_
      rintro e w' ⟨rfl, rfl⟩
      have hd1 : denL ρ [SVal.ptr k 0] = some [.pointer (some ⟨l.blk, 0, none⟩)] := by simp only [denL, den, a1, c1, Option.map_some, Option.bind_some]
      obtain ⟨_, e2, l', w1, e3, e4, e5, e6⟩ := storeS_spec hr h7 hd1
      rw [a1] at e3
      cases e3
      have e4 := e4 Tryz.prog
      rw [c1] at e4
      have hs := run_storeCells_at Tryz.prog l.blk 0 e [.pointer (some ⟨l.blk, 0, none⟩)] 0 cs w b1 (by simp; omega) (by intro u hu; simp at hu; subst hu; rfl)
      rw [Nat.zero_add] at e4
      rw [hs] at e4
      injection e4 with _ e4
      have : w.setCell ⟨l.blk, 0, none⟩ (.pointer (some ⟨l.blk, 0, none⟩)) = w1 := by
        rw [← e4]
        have hcs : cs.size = 2 := by rw [c4, h3]
        simp only [World.setCell, World.setRow]
        congr 1
        apply Array.ext_getElem?
        intro i
        simp only [Array.getElem?_modify]
        split
        · rename_i ei
          subst ei
          rw [b1]
          simp only [Option.map_some, Option.some.injEq]
          congr 1
          apply Array.ext_getElem?
          intro j
          match j with
          | 0 => simp [hcs]
          | 1 => simp [hcs]
          | j + 2 => simp [hcs]
        · rfl
      rw [this]
      exact ⟨_, rfl, ρ, rfl, e5, e6⟩
    · cases h
  · cases h

noncomputable def okBytes : List SVal → Bool
  | [] => true
  | .int .u8 n :: r => andB (inR .u8 n) (okBytes r)
  | _ => false
noncomputable def capOk (b : Blk) : Ev.Cap → Bool
  | .ex c => Nat.ble 1 c
  | .rest o => andB (Nat.beq o 0) (oEq b.slack (some 1))
noncomputable def strC (args : List SVal) (st : St) : M (SVal × St) :=
  match args with
  | [.ptr k 0] => bnd (ownBox st k 2) fun _ => bnd (load1 st k 1) fun v =>
    match v with
    | .nilSl => some (.str [], st)
    | .sl kk 0 len cap => whn (Nat.ble 1 len) <| whn (Nat.ble len 1000000) <| bnd (st.blk kk) fun b => whn b.own <| whn (Nat.beq b.elem 5) <| whn (capOk b cap) <| whn (Nat.ble len b.n) <|
      bnd (readFrom b.c len 0) fun l => bnd (toBytes l) fun s => whn (okBytes l) <| bnd (st.drop kk) fun st' => some (.str s, st')
    | _ => none
  | _ => none
theorem okBytes_den {ρ : Val} : ∀ {ls : List SVal} {s : List UInt8} {vs : List Value}, toBytes ls = some s → okBytes ls = true → denL ρ ls = some vs → vs = s.map fun x => Value.int .u8 x.toNat
  | [], s, vs, h, _, hd => by
    cases h
    rw [denL_nil] at hd
    exact hd
  | x :: r, s, vs, h, ho, hd => by
    obtain ⟨n, l', rfl, h2, rfl⟩ := toBytes_cons h
    obtain ⟨v, us, h3, h4, rfl⟩ := denL_cons.1 hd
    cases h3
    have ho : andB (inR .u8 n) (okBytes r) = true := ho
    obtain ⟨o1, o2⟩ := andB_true ho
    rw [okBytes_den h2 o2 h4]
    simp only [List.map_cons]
    congr 2
    cases n with
    | negSucc m => cases o1
    | ofNat m =>
      have hm : m ≤ 255 := ble_true o1
      show Int.ofNat m = ((UInt8.ofNat m).toNat : Int)
      simp
      omega
theorem body_str : Tryz.f200.body.isSome = true := by kernel_rfl
theorem freeze_only (w : World) (g n : Nat) : OnlyAt g w (w.drew.freeze ⟨g, 0, none⟩ n) := by
  unfold World.freeze
  split
  · exact ⟨rfl, rfl, rfl, rfl, fun _ _ => rfl⟩
  · exact ⟨rfl, rfl, rfl, by show (Array.modify _ _ _).size = _; rw [Array.size_modify]; rfl, fun k hk => by
      show (Array.modify _ _ _)[k]? = _
      rw [Array.getElem?_modify, if_neg (fun e => hk e.symm)]
      rfl⟩
theorem strC_ok : CallAt Tryz.prog 200 strC := by
  intro args st s st' h
  obtain ⟨hf1, hf2⟩ := env_ok.funcs 200 Tryz.f200 (by kernel_rfl)
  unfold strC at h
  split at h
  · rename_i k
    rw [bnd_some] at h
    obtain ⟨_, h1, h⟩ := h
    rw [bnd_some] at h
    obtain ⟨v, h2, h⟩ := h
    obtain ⟨B, d1, d2⟩ := ownBox_spec h1
    split at h
    · cases h
      refine ⟨Sta.refl _, fun {ρ w} hr hwf hfree vs hvs => ?_⟩
      obtain ⟨l, f1, z1, t1⟩ := own_base hr d1 d2
      obtain ⟨m, v, g1, n1, p1⟩ := load1_spec hr h2
      rw [f1] at g1; cases g1
      cases n1
      rw [z1] at p1
      have hargs : vs = [.pointer (some ⟨l.blk, 0, none⟩)] := by
        simp only [denL, den, f1, z1, Option.map_some, Option.bind_some, Option.some.injEq] at hvs
        rw [← hvs]
      subst hargs
      refine call1_of_calls hf1 hf2 body_str ?_
      refine (builder_string_nil l.blk w p1).mono ?_
      rintro e w' ⟨rfl, rfl⟩
      exact ⟨_, rfl, ρ, rfl, hr.drew, (Step.refl _ _ _ _).draw _⟩
    · rename_i kk len cap
      rw [whn_some, whn_some, bnd_some] at h
      obtain ⟨h3, h4, b, h5, h⟩ := h
      rw [whn_some, whn_some, whn_some, whn_some, bnd_some] at h
      obtain ⟨h6, h7, h8, h9, ls, h10, h⟩ := h
      rw [bnd_some] at h
      obtain ⟨bs, h11, h⟩ := h
      rw [whn_some, bnd_some] at h
      obtain ⟨h12, st1, h13, h14⟩ := h
      cases h14
      have hlk := blk_spec h5
      have h3 := ble_true h3
      have h4 := ble_true h4
      have h7 := beq_true h7
      have h9 := ble_true h9
      refine ⟨drop_sta h13 hlk, fun {ρ w} hr hwf hfree vs hvs => ?_⟩
      obtain ⟨l, f1, z1, t1⟩ := own_base hr d1 d2
      obtain ⟨m, v, g1, n1, p1⟩ := load1_spec hr h2
      rw [f1] at g1; cases g1
      rw [z1] at p1
      obtain ⟨lk, q1, q2⟩ := hr.lies kk _ hlk
      have q2' : RowAt ρ b lk w := q2
      obtain ⟨us, r1, r2, r3⟩ := row_read q2' h10 (by omega)
      obtain ⟨cs, e, fz, b1, b2, b3, b4⟩ := q2'
      obtain ⟨c1, c2, c3, c4⟩ := b3 h6
      subst c2
      have hus := okBytes_den h11 h12 r1
      have hlen : bs.length = len := by rw [← r2, hus]; simp
      have hargs : vs = [.pointer (some ⟨l.blk, 0, none⟩)] := by
        simp only [denL, den, f1, z1, Option.map_some, Option.bind_some, Option.some.injEq] at hvs
        rw [← hvs]
      subst hargs
      have hcap : ∃ c, v = .slice (some ⟨lk.blk, 0, none⟩) bs.length c ∧ c ≠ 0 := by
        rw [hlen]
        cases cap with
        | ex c =>
          simp only [den, q1, c1, Option.map_some, Option.some.injEq] at n1
          have : 1 ≤ c := ble_true h8
          exact ⟨c, n1.symm, by omega⟩
        | rest o =>
          simp only [den, q1, c1, Option.map_some, Option.some.injEq] at n1
          obtain ⟨e1, e2⟩ := andB_true h8
          have e1 := beq_true e1
          have e2 := oEq_ok e2
          subst e1
          have := (b4 1 e2).1
          exact ⟨lk.cap - 0, n1.symm, by omega⟩
      obtain ⟨c, rfl, hc0⟩ := hcap
      have hsz : len ≤ cs.size := by
        obtain ⟨s1, v1, _, _, x3⟩ := b2 (len - 1) (by omega)
        rw [c1] at x3
        have := (Array.getElem?_eq_some_iff.1 x3).1
        omega
      refine call1_of_calls hf1 hf2 body_str ?_
      refine (builder_string l.blk lk.blk c cs.size bs w (fun e0 => by rw [e0] at hlen; simp at hlen; omega) hc0 p1 (by simp only [World.shape?, b1]; rw [c3, h7]) (by omega) (by omega) (fun j x hj => ?_)).mono ?_
      · have := r3 j (.int .u8 x.toNat) (by rw [hus]; simp [hj])
        rw [c1] at this
        rw [add_addr]
        rw [← this]
      rintro e w' ⟨rfl, rfl⟩
      obtain ⟨k1, k2⟩ := drop_rep2 h13 hr hlk h6 q1 (freeze_only w lk.blk bs.length)
      exact ⟨_, rfl, ρ, rfl, k1, k2⟩
    · cases h
  · cases h
end Go.Proofs.YtpgkdhhlcpgjcaaGreatDoor
/-
  lang.Words of the empty set.
-/
namespace Go.Proofs.YtpgkdhhlcpgjcaaGreatDoor
open Ev Go.RowKit
set_option linter.unusedSectionVars false
variable [Fam]
set_option maxRecDepth 100000

noncomputable def base0 (f : FuncId) : Option (List SVal → St → M (SVal × St)) :=
  Bool.rec (Bool.rec (Bool.rec none (some strC) (Nat.beq f 200)) (some copyC) (Nat.beq f 258)) (some collectS) (Nat.beq f 171)
theorem base0_ok : ExtOk Tryz.prog base0 := fun f x h => by
  have h : @Bool.rec (fun _ => Option (List SVal → St → M (SVal × St))) (@Bool.rec (fun _ => Option (List SVal → St → M (SVal × St))) (@Bool.rec (fun _ => Option (List SVal → St → M (SVal × St))) none (some strC) (Nat.beq f 200)) (some copyC) (Nat.beq f 258)) (some collectS) (Nat.beq f 171) = some x := h
  cases h1 : Nat.beq f 171 with
  | true => rw [h1] at h; cases h; rw [beq_true h1]; exact collectS_ok
  | false =>
    cases h2 : Nat.beq f 258 with
    | true => rw [h1, h2] at h; cases h; rw [beq_true h2]; exact copyC_ok
    | false =>
      cases h3 : Nat.beq f 200 with
      | true => rw [h1, h2, h3] at h; cases h; rw [beq_true h3]; exact strC_ok
      | false => rw [h1, h2, h3] at h; cases h

noncomputable def goodF : Fct := { f := 55, args := [.agg [.nilSl]], rows := [], res := .agg [.nilSl], out := [] }
theorem goodF_chk : chk envT base0 [] goodF [] = true := by kernel_rfl
theorem good_nil (w : World) : Calls Tryz.prog 55 #[.agg #[.slice none 0 0]] w fun e w' => e = .returned (.agg #[.slice none 0 0]) ∧ Stands w w' := by
  refine Calls.mono (calls_closed (chk_calls env_ok base0_ok FactsOk.nil goodF_chk) (args := [.agg [.nilSl]]) (s := .agg [.nilSl]) (by kernel_rfl) (vs := [.agg #[.slice none 0 0]]) rfl w) ?_
  rintro e w' ⟨v, rfl, ⟨ρ, hv⟩, hw⟩
  have hv : some (Value.agg #[.slice none 0 0]) = some v := hv
  cases hv
  exact ⟨rfl, hw⟩

noncomputable def langRows : List Row0 := [⟨[.nilSl], none⟩]
noncomputable def isTup0 (x : M (SVal × St)) : Bool := Option.rec (motive := fun _ => Bool) false (fun p => match p.1 with | .tup [] => true | _ => false) x
noncomputable def wordsRun (l : Nat) : M (SVal × St) := bnd (pst langRows) fun st => callFn envT (run envT base0 100000) Tryz.f254 [.func (.yield l) [] [], .ptr 0 0] st
theorem wordsRun_ok (l : Nat) : isTup0 (wordsRun l) = true := by kernel_rfl
/-- the iterator of the empty set yields nothing -/
theorem words1_nil (l b : Nat) (W : World) (h : W.cell? ⟨b, 0, none⟩ = some (.slice none 0 0)) :
    Calls Tryz.prog 254 #[.func (.yield l) #[] #[], .pointer (some ⟨b, 0, none⟩)] W fun e W' => (∃ v, e = .returned v) ∧ Stands W W' := by
  have h0 := wordsRun_ok l
  cases hx : wordsRun l with
  | none => rw [hx] at h0; cases h0
  | some q =>
    unfold wordsRun at hx
    rw [bnd_some] at hx
    obtain ⟨p0, hp, hq⟩ := hx
    obtain ⟨s, st'⟩ := q
    obtain ⟨p1, p2, p3, p4⟩ := pst_ok hp
    have hfn : envT.funcs.get 254 = some Tryz.f254 := by kernel_rfl
    obtain ⟨k1, k2⟩ := callFn_calls env_ok (run_ok env_ok base0_ok 100000).1 hfn hq
    let ρ : Val := fun k => if k = 0 then some ⟨b, 0, 0⟩ else none
    have hρ : ρ 0 = some ⟨b, 0, 0⟩ := rfl
    have hl : p0.next = 1 := p1
    obtain ⟨cs, e, fz, hW, hcs⟩ : ∃ cs e fz, W.heap[b]? = some (.cells cs e fz) ∧ cs[0]? = some (.slice none 0 0) := by
      unfold World.cell? at h
      split at h
      · rename_i cs e fz hW
        exact ⟨cs, e, fz, hW, h⟩
      · cases h
    have hrep : Rep ρ p0.look W := by
      refine ⟨fun k o hk => ?_, fun k j o o' l l' hk hj hne how => ?_, fun k t hk => ?_⟩
      · obtain ⟨r, c, h1, rfl, h2⟩ := p4 k o hk
        have hk0 : k = 0 := by
          have := (List.getElem?_eq_some_iff.1 h1).1
          simp [langRows] at this
          omega
        subst hk0
        have h1 : some (⟨[.nilSl], none⟩ : Row0) = some r := h1
        cases h1
        refine ⟨_, hρ, cs, e, fz, hW, fun i hi => ?_, fun h => absurd h (by simp), fun sz hsz => by cases hsz⟩
        have hi : i < 1 := hi
        have hi : i = 0 := by omega
        subst hi
        exact ⟨.nilSl, .slice none 0 0, h2 0 (by simp), rfl, hcs⟩
      · obtain ⟨r, c, h1, rfl, h2⟩ := p4 k o hk
        cases how
      · obtain ⟨r, c, h1, h2, _⟩ := p4 k _ hk
        cases h2
    have hfree : Free ρ p0.next st'.next := fun k hk _ => by
      show (if k = 0 then some (⟨b, 0, 0⟩ : Ev.Loc) else none) = none
      rw [if_neg (by omega)]
    have hd : denL ρ [.func (.yield l) [] [], .ptr 0 0] = some [.func (.yield l) #[] #[], .pointer (some ⟨b, 0, none⟩)] := rfl
    refine Calls.mono (k2 hrep p3 hfree hd) ?_
    rintro e w' ⟨v, rfl, ρ', _, _, hs⟩
    refine ⟨⟨v, rfl⟩, stands_of_step hs fun k o hk => ?_⟩
    obtain ⟨r, c, _, rfl, _⟩ := p4 k o hk
    rfl

/-- between the rounds: the box holds nil -/
def BoxNil (w0 : World) (b : Nat) (_ : List Empty) (W : World) : Prop := W.heap[b]? = some (.cells #[.slice none 0 0] 193 (0, 0)) ∧ Below w0.heap.size w0 W
theorem boxNil_own (w0 : World) (b B : Nat) (hB : w0.heap.size ≤ B) : OwnFrom B (BoxNil w0 b) := fun s X Y row hs hg hr => by
  obtain ⟨hb, hw⟩ := hs
  refine ⟨(hg.block _ (Array.getElem?_eq_some_iff.1 hb).1 (fun e => ?_)).trans hb, hw.grown hg hw.size (fun k e => Nat.le_trans hB (hr k e).1)⟩
  obtain ⟨_, o, h1, h2⟩ := hr _ e.symm
  rw [hb] at h1
  cases h1
  cases h2
theorem words1_seq (b : Nat) (w0 : World) (h : w0.cell? ⟨b, 0, none⟩ = some (.slice none 0 0)) (n : Nat) :
    SeqStopsK Fence.wide n Tryz.prog 254 #[.pointer (some ⟨b, 0, none⟩)] (fun x : Empty => x.elim) (fun _ _ => True) (fun xs => xs = []) (fun _ => False) 0 w0 := by
  intro l J Jx W hW hJ _ _ h0
  refine (callsIn_wide.2 (words1_nil l b W ?_)).mono ?_
  · exact (hW.cell (p := ⟨b, 0, none⟩) (World.block_lt_of_cell? _ _ h)).trans h
  · rintro e W' ⟨he, hs⟩
    exact ⟨he, .inl ⟨[], rfl, hJ [] W W' none h0 ⟨hs.os, hs.tape, hs.output, hs.size, fun k hk _ => hs.kept k hk⟩ (fun r e => by cases e)⟩⟩

theorem words_make (W : World) : Calls Tryz.prog 196 #[.agg #[.slice none 0 0]] W fun e w' => e = .returned (.func (.func 254) #[] #[.pointer (some ⟨W.heap.size, 0, none⟩)]) ∧ w' = W.alloc (.cells #[.slice none 0 0] 33) := by
  go_enter Tryz.func196, Tryz.ntmps196
  go_wp2
  go_ret
  exact ⟨rfl, rfl⟩

set_option maxHeartbeats 1000000 in
theorem words_nil (w : World) (k : Int) : Calls Tryz.prog 159 #[.agg #[.slice none 0 0], .int .i64 k] w fun e w' => e = .returned (.slice none 0 0) ∧ Below w.heap.size w w' := by
  refine (callsIn_wide (n := 5)).1 ?_
  have hro : Fence.wide.round = none := rfl
  have hfn : Fence.wide.fn 159 := trivial
  have hfg : Fence.wide.fn 55 := trivial
  have hfw : Fence.wide.fn 196 := trivial
  have eg : ∀ args w, (callFunc 55 args).run Tryz.prog w = .ok (.enter 55 args) w := enters_of Tryz.func55 (by kernel_rfl) rfl
  have ew : ∀ args w, (callFunc 196 args).run Tryz.prog w = .ok (.enter 196 args) w := enters_of Tryz.func196 (by kernel_rfl) rfl
  refine callsIn_of_wp_marks Tryz.func159 rfl hfn ?_ hro
  simp only [Tryz.ntmps159, List.size_toArray, List.length_cons, List.length_nil, Nat.reduceAdd, Nat.reduceSub, Array.replicate_succ, Array.replicate_zero, List.push_toArray, List.append_toArray, List.nil_append, List.cons_append]
  by_cases hk : k < 1
  · gi_wp2_with fail
    exact ⟨_, results_tmp rfl _ _ _, rfl, (((Ext.refl w).alloc _).alloc _).alloc _⟩
  · gi_wp2_with fail
    refine (callsIn_wide.2 (good_nil _)).mono ?_
    rintro e w1 ⟨rfl, hs1⟩
    have hb1 : Ext w w1 := ((((Ext.refl w).alloc _).alloc _).alloc _).trans ⟨hs1.os, hs1.tape, hs1.output, hs1.size, hs1.kept⟩
    have hbox : w1.heap[w.heap.size + 1 + 1]? = some (.cells #[.slice none 0 0] 193 (0, 0)) := by
      rw [hs1.kept _ (by simp)]
      have := heap_alloc_new ((w.alloc (.cells #[.slice none 0 0] 33)).alloc (.cells #[.int .i64 k] 3)) (.cells #[.slice none 0 0] 193)
      simpa using this
    have c2 : w1.cell? ⟨w.heap.size + 1 + 1, 0, none⟩ = some (.slice none 0 0) := by simp [World.cell?, hbox]
    have HB := Lib.hid hb1
    have HX := Lib.hid hbox
    clear hs1 hb1 hbox
    gi_wp2_with fail
    refine (callsIn_wide.2 (words_make _)).mono ?_
    rintro e w2 ⟨rfl, rfl⟩
    gi_wp2_with fail
    have hlt : w.heap.size + 1 + 1 < w1.heap.size := (Array.getElem?_eq_some_iff.1 HX.out).1
    refine wpIn_rangeFunc_ownH hro (by omega) (gf := 254) (lb := #[.pointer (some ⟨w1.heap.size, 0, none⟩)]) rfl trivial (enters_of Tryz.func254 (by kernel_rfl) rfl)
      (words1_seq w1.heap.size (w1.alloc (.cells #[.slice none 0 0] 33)) (by simp) _) (fun _ _ => trivial) (fun _ _ _ _ _ _ _ _ => trivial) (Below.refl _ _) (fun x => x.elim)
      (BoxNil (w1.alloc (.cells #[.slice none 0 0] 33)) (w.heap.size + 1 + 1)) (fun _ _ _ => False) (boxNil_own _ _ _ (Nat.le_refl _)) (fun c s X Y row hs _ _ => hs) ?start (fun x _ _ => x.elim) (fun x => x.elim) ?assign ?body ?done ?stop
    case start => exact ⟨(Below.heap_alloc w1 _ _ hlt).trans HX.out, Below.refl _ _⟩
    case assign => exact fun _ _ x => x.elim
    case body => exact fun _ _ x => x.elim
    case done =>
      rintro D xs W hD _ ⟨hb, hB⟩ hK
      have c5 : W.cell? ⟨w.heap.size + 1 + 1, 0, none⟩ = some (.slice none 0 0) := by simp [World.cell?, hb]
      have HB2 := Lib.hid hB
      have HK := Lib.hid hK
      clear hb hB
      gi_wp2
      refine ⟨by simp, .inl ⟨_, _, rfl, run_takeDeferred HK.out, ?_⟩⟩
      have hD2 : w1.heap.size ≤ D := by simp at hD; omega
      have hE : Ext w W := HB.out.trans (Ext.trans ((Ext.refl w1).alloc _) HB2.out)
      have hg := grownBy_putObj' W D (.deferred none)
      exact ⟨_, results_tmp rfl _ _ _, rfl, (hE.below (Nat.le_refl _)).grown hg hE.size (fun k e => by cases e; have := HB.out.size; omega)⟩
    case stop => exact fun _ _ _ _ _ h => h.elim
noncomputable def wordsS (args : List SVal) (st : St) : M (SVal × St) :=
  match args with
  | [.agg [.nilSl], .int .i64 _] => some (.nilSl, st)
  | _ => none
theorem body_words : Tryz.f159.body.isSome = true := by kernel_rfl
theorem wordsS_ok : CallAt Tryz.prog 159 wordsS := by
  intro args st s st' h
  unfold wordsS at h
  split at h
  · rename_i k
    cases h
    refine ⟨Sta.refl _, fun {ρ w} hr hwf hfree vs hvs => ?_⟩
    have hvs : some [Value.agg #[.slice none 0 0], .int .i64 k] = some vs := hvs
    cases hvs
    obtain ⟨hf1, hf2⟩ := env_ok.funcs 159 Tryz.f159 (by kernel_rfl)
    refine call1_of_calls hf1 hf2 body_words ((words_nil w k).mono ?_)
    rintro e w' ⟨rfl, hw⟩
    exact ⟨_, rfl, ρ, rfl, stands_rep hr (Stands.of_below hw), stands_step _ _ _ (Stands.of_below hw)⟩
  · cases h
noncomputable def base1 (f : FuncId) : Option (List SVal → St → M (SVal × St)) := Bool.rec (base0 f) (some wordsS) (Nat.beq f 159)
theorem base1_ok : ExtOk Tryz.prog base1 := fun f x h => by
  have h : @Bool.rec (fun _ => Option (List SVal → St → M (SVal × St))) (base0 f) (some wordsS) (Nat.beq f 159) = some x := h
  cases h1 : Nat.beq f 159 with
  | true => rw [h1] at h; cases h; rw [beq_true h1]; exact wordsS_ok
  | false => rw [h1] at h; exact base0_ok f x h
end Go.Proofs.YtpgkdhhlcpgjcaaGreatDoor
