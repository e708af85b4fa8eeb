import Derived.Test.YtpgkdhhlcpgjcaaGreatDoorGapsO
import Derived.Maps.AppendAt
/-
  slices.AppendSeq, slices.Collect over the iterator of gaps; gaps itself.
-/
namespace Go.Proofs.YtpgkdhhlcpgjcaaGreatDoor
open Go.RowKit Go.Shelf
attribute [local go_sem] Oper.semAt_some

theorem Own.isCells {w : World} {base g : Nat} {v : Value} {l : List Sp} (h : Own w base v l) (hv : v.ownBlock = some g) : ∃ o, w.heap[g]? = some o ∧ o.isCells = true := by
  rcases h.2 with ⟨rfl, _⟩ | ⟨g', cap, cur, rfl, hb, hg, _⟩
  · cases hv
  · have : g' = g := by simpa [Value.ownBlock] using hv
    subst this
    exact ⟨_, hg, rfl⟩
/-- append of one span in a round -/
theorem app_one_in {F : Fence} {nF : Nat} {ops : Array Oper} {rest : List Oper} {o : Oper} {a : Act} {Q : Exit → Act → World → Prop} {w : World} (hgd : o.guard = none) (s x : Operand)
    (ho : o.op = .call { callee := .builtin .append, args := #[s, x], argTypes := #[28, 28] })
    (base : Nat) (v : Value) (l : List Sp) (g : Nat) (lo hi : Int) (hs : a.eval s = v) (hown : Own w base v l) (hx : a.eval x = .slice (some ⟨g, 0, none⟩) 1 1)
    (h0 : w.cell? ⟨g, 0, none⟩ = some (.int .i64 lo)) (h1 : w.cell? ⟨g, 1, none⟩ = some (.int .i64 hi)) (hlen : l.length ≤ 1000000000) (hbase : base ≤ w.heap.size)
    (h : ∀ v' w', Own w' base v' (l ++ [(lo, hi)]) → w.grownBy w' v.ownBlock → (v'.ownBlock = v.ownBlock ∨ v'.ownBlock = some w.heap.size) → wpListIn F nF Tryz.prog ops Q rest (a.put o.dst v') w') : wpListIn F nF Tryz.prog ops Q (o :: rest) a w := by
  obtain ⟨i0, hi0, hz0, hz1, hz2⟩ := info_parts info_span
  refine wpListIn_plain hgd fun K hK => ?_
  obtain ⟨v', w', hr, h2, h3, h4, h5⟩ := run_append_own_at (P := Tryz.prog) w base 28 o.type 57 i0 _ 2 16 Tryz.underlying28 hi0 hz0 hz1 hz2 rfl (by decide) v l.length (spc l) hown
    ⟨g, 0, none⟩ 1 1 [.int .i64 lo, .int .i64 hi] rfl (fun j u hu => by
      match j, hu with
      | 0, hu => simp at hu; subst hu; exact h0
      | 1, hu => simp at hu; subst hu; exact h1) (fun u hu => by simp at hu; rcases hu with rfl | rfl <;> rfl) (by unfold maxLen; omega) (by omega) hbase
  unfold Oper.wpIn
  refine ⟨by simp [Oper.about, ho, resolve, Target.leads, Sem.run_pure], ?_⟩
  rw [Oper.semAt_plain F _ _ (by rw [ho]; intro c hc'; cases hc')]
  simp [execOp, ho, resolve, invoke, builtin, hs, hx, hr, Result.andThen]
  refine hK _ _ (h v' w' ?_ h3 h5)
  unfold Own
  rw [spc_append]
  simpa [spc_one] using h2

/-- between two rounds: the box holds the row of what has come -/
def AppI (w : World) (pre : List Sp) (W : World) : Prop := (∃ v, W.heap[w.heap.size]? = some (.cells #[v] 28 (0, 0)) ∧ Own W (w.heap.size + 1) v pre ∧ (pre = [] → v = .slice none 0 0)) ∧ Below w.heap.size w W
theorem appI_own (w : World) (B : Nat) (hB : w.heap.size ≤ B) : OwnFrom B (AppI w) := fun s X Y row hs hg hr => by
  obtain ⟨⟨v, hb, ho, hz⟩, hw⟩ := hs
  refine ⟨⟨v, (hg.block _ (Array.getElem?_eq_some_iff.1 hb).1 (fun e => ?_)).trans hb, ho.keep fun g e => hg.block g (ho.lt g e).2 (fun e' => ?_), hz⟩, hw.grown hg hw.size (fun k e => Nat.le_trans hB (hr k e).1)⟩
  · obtain ⟨_, o, h1, h2⟩ := hr _ e.symm
    rw [hb] at h1
    cases h1
    cases h2
  · obtain ⟨_, o, h1, h2⟩ := hr _ e'.symm
    obtain ⟨o', h3, h4⟩ := ho.isCells e
    rw [h1] at h3
    cases h3
    rw [h2] at h4
    cases h4
/-- behind the assignment to the loop's variable: it is boxed -/
def AppAx (w : World) (itv : Value) (x : Sp) (a' : Act) (W : World) : Prop := ∃ g, w.heap.size + 1 ≤ g ∧ Blk2 W g (.int .i64 x.1) (.int .i64 x.2) ∧
  a' = { tmps := #[.slice none 0 0, itv, .pointer (some ⟨w.heap.size, 0, none⟩), undef, .slice none 0 0, .pointer (some ⟨g, 0, none⟩), itv, .agg #[.int .i64 x.1, .int .i64 x.2], undef, undef, undef, undef, undef], defers := [] }
theorem appAx_own (w : World) (itv : Value) (x : Sp) (a' : Act) (B : Nat) : OwnFrom B (fun (_ : Unit) W => AppAx w itv x a' W) := fun s X Y row hs hg hr => by
  obtain ⟨g, h1, h2, h3⟩ := hs
  refine ⟨g, h1, (hg.block g h2.lt (fun e => ?_)).trans h2, h3⟩
  obtain ⟨_, o, h4, h5⟩ := hr _ e.symm
  rw [show X.heap[g]? = _ from h2] at h4
  cases h4
  cases h5
theorem kpB_putObj {Bs n₀ B : Nat} (hn : n₀ ≤ B) (hBs : Bs < B) (W : World) (l : Nat) (o o' : Obj) (hl : B ≤ l) (h : W.heap[l]? = some o) (hc : o.isCells = false) (_hw : o.isWalk = false) : KpB Bs n₀ W (W.putObj l o') := by
  have hlt := (Array.getElem?_eq_some_iff.1 h).1
  have hg := grownBy_putObj' W l o'
  have hcell : (W.putObj l o').cell? ⟨Bs, 0, none⟩ = W.cell? ⟨Bs, 0, none⟩ := by
    have := hg.block Bs (by omega) (fun e => by injection e; omega)
    simp only [World.cell?, this]
  have hr : ∀ k, RowOf Bs (W.putObj l o') k ↔ RowOf Bs W k := fun k => by unfold RowOf; rw [hcell]
  refine ⟨(Below.refl n₀ W).grown hg (by omega) (fun k e => by cases e; omega), fun k x hk hx _ _ => ?_, fun k hk => .inl ((hr k).1 hk), fun hA k hk => ?_⟩
  · refine (hg.block k (Array.getElem?_eq_some_iff.1 hk).1 (fun e => ?_)).trans hk
    injection e with e
    subst e
    rw [h] at hk
    cases hk
    rw [hc] at hx
    cases hx
  · have := hA k ((hr k).1 hk)
    have := hg.size
    omega

theorem app_round {w W w1 : World} {v v' : Value} {pre : List Sp} {x : Sp} {B : Nat} (o : Obj) (hb : W.heap[w.heap.size]? = some (.cells #[v] 28 (0, 0))) (ho : Own W (w.heap.size + 1) v pre) (hB : Below w.heap.size w W)
    (hg1 : (W.alloc o).grownBy w1 v.ownBlock) (hb1 : w1.heap[w.heap.size]? = some (.cells #[v] 28 (0, 0))) (hown1 : Own w1 (w.heap.size + 1) v' (pre ++ [x])) (hat : v'.ownBlock = v.ownBlock ∨ v'.ownBlock = some (W.heap.size + 1)) :
    KeepsFrom B W (w1.setCell ⟨w.heap.size, 0, none⟩ v') ∧ KpB w.heap.size w.heap.size W (w1.setCell ⟨w.heap.size, 0, none⟩ v') ∧ AppI w (pre ++ [x]) (w1.setCell ⟨w.heap.size, 0, none⟩ v') := by
  have hsz := (Array.getElem?_eq_some_iff.1 hb).1
  have hs1 := hg1.size
  rw [World.size_alloc] at hs1
  have hs2 : (w1.setCell ⟨w.heap.size, 0, none⟩ v').heap.size = w1.heap.size := by simp [World.setCell]
  have keep : ∀ k o', W.heap[k]? = some o' → k ≠ w.heap.size → v.ownBlock ≠ some k → (w1.setCell ⟨w.heap.size, 0, none⟩ v').heap[k]? = some o' := fun k o' hk hne hno => by
    have hlt := (Array.getElem?_eq_some_iff.1 hk).1
    refine (Below.heap_setCell w1 ⟨w.heap.size, 0, none⟩ v' k hne).trans ?_
    exact (hg1.block k (by simp; omega) (fun e => hno e.symm)).trans ((Below.heap_alloc W o k hlt).trans hk)
  have hbox : (w1.setCell ⟨w.heap.size, 0, none⟩ v').heap[w.heap.size]? = some (.cells #[v'] 28 (0, 0)) := by
    simp [World.setCell, Array.getElem?_modify, hb1]
  have hcW : W.cell? ⟨w.heap.size, 0, none⟩ = some v := by simp [World.cell?, hb]
  have hc2 : (w1.setCell ⟨w.heap.size, 0, none⟩ v').cell? ⟨w.heap.size, 0, none⟩ = some v' := by simp [World.cell?, hbox]
  have hrowW : ∀ k, RowOf w.heap.size W k ↔ v.ownBlock = some k := fun k => by
    unfold RowOf
    rw [hcW]
    constructor
    · rintro ⟨n, c, e⟩
      injection e with e
      subst e
      rfl
    · intro e
      rcases ho.2 with ⟨rfl, _⟩ | ⟨g', cap, cur, rfl, _⟩
      · cases e
      · have : g' = k := by simpa [Value.ownBlock] using e
        subst this
        exact ⟨_, _, rfl⟩
  have hrow2 : ∀ k, RowOf w.heap.size (w1.setCell ⟨w.heap.size, 0, none⟩ v') k → v'.ownBlock = some k := fun k => by
    unfold RowOf
    rw [hc2]
    rintro ⟨n, c, e⟩
    injection e with e
    subst e
    rfl
  have hown2 : Own (w1.setCell ⟨w.heap.size, 0, none⟩ v') (w.heap.size + 1) v' (pre ++ [x]) := hown1.setOther (p := ⟨w.heap.size, 0, none⟩) (fun e => by have := (hown1.lt _ e).1; simp only at this; omega) v'
  have hbel : Below w.heap.size W (w1.setCell ⟨w.heap.size, 0, none⟩ v') := by
    refine Below.setCell (p := ⟨w.heap.size, 0, none⟩) (B := w.heap.size) ?_ (Nat.le_refl _) v'
    exact Below.grown ((Below.refl w.heap.size W).alloc (by omega) o) hg1 (by simp; omega) (fun k e => by have := (ho.lt k e).1; omega)
  refine ⟨⟨by omega, fun k o' _ hk hc => keep k o' hk (fun e => ?_) (fun e => ?_)⟩, ⟨hbel, fun k o' hk _ hne hr => keep k o' hk hne (fun e => hr ((hrowW k).2 e)), fun k hk => ?_, fun _ k hk => ?_⟩, ⟨⟨v', hbox, hown2, fun h => by simp at h⟩, hB.trans hbel⟩⟩
  · subst e; rw [hb] at hk; cases hk; cases hc
  · obtain ⟨o2, h1, h2⟩ := ho.isCells e
    rw [hk] at h1; cases h1; rw [hc] at h2; cases h2
  · rcases hat with h | h
    · exact .inl ((hrowW k).2 (h ▸ hrow2 k hk))
    · have := hrow2 k hk
      rw [h] at this
      injection this with this
      exact .inr (by omega)
  · have := (hown1.lt k (hrow2 k hk)).2
    omega

set_option maxRecDepth 100000 in
set_option maxHeartbeats 1000000 in
theorem appendSeq_own (w : World) (b4 b5 b6 b7 : Nat) (N : Nat) (hN : N ≤ 2000000) (res : List Sp)
    (hseq : ∀ n, 1 ≤ n → SeqStopsK Fence.wide n Tryz.prog 203 #[.pointer (some ⟨b5, 0, none⟩), .pointer (some ⟨b4, 0, none⟩), .pointer (some ⟨b7, 0, none⟩), .pointer (some ⟨b6, 0, none⟩)] (fun x : Sp => #[.agg #[.int .i64 x.1, .int .i64 x.2]]) (KpB w.heap.size w.heap.size) (fun ys => ys = res) (fun _ => True) N (w.alloc (.cells #[.slice none 0 0] 28))) :
    Calls Tryz.prog 202 #[.slice none 0 0, .func (.func 203) #[] #[.pointer (some ⟨b5, 0, none⟩), .pointer (some ⟨b4, 0, none⟩), .pointer (some ⟨b7, 0, none⟩), .pointer (some ⟨b6, 0, none⟩)]] w fun e w' => ∃ r, e = .returned r ∧ (Own w' w.heap.size r res ∧ (res = [] → r = .slice none 0 0)) ∧ Ext w w' := by
  refine (callsIn_wide (n := 5)).1 ?_
  have hro : Fence.wide.round = none := rfl
  have hfn : Fence.wide.fn 202 := trivial
  refine callsIn_of_wp_marks Tryz.func202 rfl hfn ?_ hro
  simp only [Tryz.ntmps202, List.size_toArray, List.length_cons, List.length_nil, Nat.reduceAdd, Nat.reduceSub, Array.replicate_succ, Array.replicate_zero, List.push_toArray, List.append_toArray, List.nil_append, List.cons_append]
  gi_wp2
  refine wpIn_rangeFunc_ownH hro (by omega) (gf := 203) (lb := #[.pointer (some ⟨b5, 0, none⟩), .pointer (some ⟨b4, 0, none⟩), .pointer (some ⟨b7, 0, none⟩), .pointer (some ⟨b6, 0, none⟩)]) rfl trivial (enters_of Tryz.func203 (by kernel_rfl) rfl)
    (hseq _ (by omega)) (fun h k => KpB.trans h k) (fun W l o o' hl h hc hw => kpB_putObj (B := w.heap.size + 1) (by omega) (by omega) W l o o' (by simpa using hl) h hc hw) (Below.refl _ _) (fun _ => rfl)
    (AppI w) (fun _ _ _ => False) (appI_own w _ (by simp)) (fun c s X Y row hs _ _ => hs) ?start (AppAx w (.func (.func 203) #[] #[.pointer (some ⟨b5, 0, none⟩), .pointer (some ⟨b4, 0, none⟩), .pointer (some ⟨b7, 0, none⟩), .pointer (some ⟨b6, 0, none⟩)])) (fun x a' => appAx_own w _ x a' _) ?assign ?body ?done ?stop
  case start => exact ⟨⟨_, heap_alloc_new w _, Own.nil _ _, fun _ => rfl⟩, (Ext.refl w).alloc _⟩
  case assign =>
    rintro l pre x W K hi hK
    obtain ⟨⟨v, hb, ho, hz⟩, hB⟩ := hi
    have hsz := (Array.getElem?_eq_some_iff.1 hb).1
    have hK1 : KeepsFrom (w.alloc (.cells #[.slice none 0 0] 28)).heap.size W (W.alloc (.cells #[.int .i64 x.1, .int .i64 x.2] 57)) := (KeepsOthers.alloc W _).from _
    have hK2 : KpB w.heap.size w.heap.size W (W.alloc (.cells #[.int .i64 x.1, .int .i64 x.2] 57)) := (KpB.refl _ _ _).alloc hsz (by omega) _
    have hK3 : AppI w pre (W.alloc (.cells #[.int .i64 x.1, .int .i64 x.2] 57)) := ⟨⟨v, (Below.heap_alloc W _ _ hsz).trans hb, ho.alloc _, hz⟩, hB.alloc (by omega) _⟩
    have hK4 := Blk2.new W (.int .i64 x.1) (.int .i64 x.2)
    have H1 := Lib.hid hK1
    have H2 := Lib.hid hK2
    have H3 := Lib.hid hK3
    have H4 := Lib.hid hK4
    clear hK1 hK2 hK3 hK4
    gi_wp2
    exact hK _ _ H1.out H2.out H3.out ⟨W.heap.size, by omega, H4.out, rfl⟩
  case body =>
    rintro l pre x a' W hl hrec ⟨⟨v, hb, ho, _⟩, hB⟩ ⟨g, hg, hbk, rfl⟩ hlen
    have hsz := (Array.getElem?_eq_some_iff.1 hb).1
    have e0 := hbk.cell0
    have e1 := hbk.cell1
    have c0 : W.cell? ⟨w.heap.size, 0, none⟩ = some v := by simp [World.cell?, hb]
    have hform := ho.form
    have hsize := hB.size
    have HBK := Lib.hid hb
    have HO := Lib.hid ho
    have HB := Lib.hid hB
    have hxb := Blk2.new W (.int .i64 x.1) (.int .i64 x.2)
    have x0 := hxb.cell0
    have x1 := hxb.cell1
    clear hrec hb
    gi_wp2_with (gi_at_builtin; refine app_one_in rfl _ _ rfl (w.heap.size + 1) _ pre _ x.1 x.2 rfl (ho.alloc _) rfl x0 x1 (by omega) (by simp; omega) ?_)
    intro v' w1 hown1 hg1 hat
    have hbw1 : w1.heap[w.heap.size]? = some (.cells #[v] 28 (0, 0)) := (hg1.block _ (by simp; omega) (fun e => by have := (HO.out.lt _ e.symm).1; omega)).trans ((Below.heap_alloc W _ _ hsz).trans HBK.out)
    have hc1 : w1.cell? ⟨w.heap.size, 0, none⟩ = some v := by simp [World.cell?, hbw1]
    have hf1 : w1.frozen? ⟨w.heap.size, 0, none⟩ = false := by simp [World.frozen?, hbw1]
    have hsz1 := hg1.size
    simp at hsz1
    have HG := Lib.hid hg1
    have HW := Lib.hid hbw1
    have HN := Lib.hid hown1
    have HAT := Lib.hid hat
    clear hg1 hbw1 hown1 hat x0 x1 hxb e0 e1 hbk
    obtain ⟨A', c', rfl⟩ := HN.out.form
    gi_wp2
    have hr := app_round (B := (w.alloc (.cells #[.slice none 0 0] 28)).heap.size) _ HBK.out HO.out HB.out HG.out HW.out HN.out HAT.out
    simp only [List.length_append, List.length_cons, List.length_nil] at hr
    exact hr
  case done =>
    rintro D xs W hD rfl ⟨⟨v, hb, ho, hz⟩, hB⟩ hK
    have c0 : W.cell? ⟨w.heap.size, 0, none⟩ = some v := by simp [World.cell?, hb]
    have HO := Lib.hid ho
    have HB := Lib.hid hB
    have HK := Lib.hid hK
    have HZ := Lib.hid hz
    clear hb ho hB hz
    obtain ⟨A', c', rfl⟩ := HO.out.form
    gi_wp2
    refine ⟨by simp, .inl ⟨_, _, rfl, run_takeDeferred hK, ?_⟩⟩
    have hg := grownBy_putObj' W D (.deferred none)
    have hB2 : Ext w (W.putObj D (.deferred none)) := HB.out.trans (belowK_b (w := w) (Nat.le_refl _) W D _ _ (by simp at hD; omega) hK rfl rfl)
    have hO2 : Own (W.putObj D (.deferred none)) (w.heap.size + 1) (.slice A' xs.length c') xs := HO.out.keep fun g e => hg.block g (HO.out.lt g e).2 (fun e' => by
      injection e' with e'
      subst e'
      obtain ⟨o, h1, h2⟩ := HO.out.isCells e
      rw [hK] at h1
      cases h1
      cases h2)
    have hO3 := hO2.mono (Nat.le_succ w.heap.size)
    refine ⟨_, results_tmp rfl _ _ _, _, rfl, ?_, hB2⟩
    exact ⟨hO3, HZ.out⟩
  case stop =>
    rintro D c pre W hD _ hf
    exact hf.elim
end Go.Proofs.YtpgkdhhlcpgjcaaGreatDoor
