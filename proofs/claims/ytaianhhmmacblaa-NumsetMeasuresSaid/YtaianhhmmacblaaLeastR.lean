import Derived.Test.YtaianhhmmacblaaCountR
import Derived.Test.YtaianhhmmacblaaLeastP
/-
  The reference's Least, Single.
-/
namespace Go.Proofs.Ytaianhhmmacblaa
open Go.RowKit

theorem info_i64 : (Try.prog.info? 2).map (fun i => (i.zero, i.size, i.bytes)) = some (some (.int .i64 0), 1, 8) := by kernel_rfl
def ivs (l : List Int) : List Value := l.map (.int .i64)
/-- v is a row of integers of the call's own, in blocks from base on -/
def OwnI (w : World) (base : Nat) (v : Value) (l : List Int) : Prop := w.ownsRow base 2 1 v l.length (ivs l)
theorem OwnI.nil (w : World) (base : Nat) : OwnI w base (.slice none 0 0) [] := World.ownsRow_nil w base _ 1
theorem OwnI.lt {w : World} {base : Nat} {v : Value} {l : List Int} (h : OwnI w base v l) : ∀ k, v.ownBlock = some k → base ≤ k ∧ k < w.heap.size := World.ownsRow.lt h
theorem OwnI.keep {w w' : World} {base : Nat} {v : Value} {l : List Int} (h : OwnI w base v l) (hk : ∀ g, v.ownBlock = some g → w'.heap[g]? = w.heap[g]?) : OwnI w' base v l := by
  refine ⟨h.1, ?_⟩
  rcases h.2 with h1 | ⟨g, cap, cur, rfl, hb, hg, rest⟩
  · exact .inl h1
  · exact .inr ⟨g, cap, cur, rfl, hb, by rw [hk g rfl]; exact hg, rest⟩
theorem OwnI.ext {w w' : World} {base : Nat} {v : Value} {l : List Int} (h : OwnI w base v l) (hE : Ext w w') : OwnI w' base v l :=
  h.keep fun g hg => hE.block g (h.lt g hg).2
theorem OwnI.alloc {w : World} {base : Nat} {v : Value} {l : List Int} (h : OwnI w base v l) (o : Obj) : OwnI (w.alloc o) base v l := World.ownsRow.alloc h o
theorem OwnI.form {w : World} {base : Nat} {v : Value} {l : List Int} (h : OwnI w base v l) : ∃ A c, v = .slice A l.length c := by
  rcases h.2 with ⟨h1, h2⟩ | ⟨g, cap, cur, h1, _⟩
  · exact ⟨none, 0, by rw [h1, h2]⟩
  · exact ⟨_, _, h1⟩
theorem OwnI.cell {w : World} {base : Nat} {A : Option Addr} {n c : Nat} {l : List Int} (h : OwnI w base (.slice A n c) l) {k : Nat} (hk : k < l.length) :
    ∃ b, A = some ⟨b, 0, none⟩ ∧ b < w.heap.size ∧ w.cell? ⟨b, k, none⟩ = some (.int .i64 l[k]) := by
  rcases h.2 with ⟨_, h2⟩ | ⟨g, cap, cur, h1, hb, hg, _⟩
  · omega
  · have hA : A = some ⟨g, 0, none⟩ := by injection h1
    subst hA
    have hc := World.ownsRow.cells h (g := g) rfl k (.int .i64 l[k]) (by unfold ivs; simp [hk])
    have hadd : (⟨g, 0, none⟩ : Addr).add k = ⟨g, k, none⟩ := by unfold Addr.add; split <;> simp_all
    rw [hadd] at hc
    exact ⟨g, rfl, (Array.getElem?_eq_some_iff.1 hg).1, hc⟩
theorem app_i {ops : Array Oper} {rest : List Oper} {o : Oper} {a : Act} {Q : Exit → Act → World → Prop} {w : World} (hgd : o.guard = none) (s x : Operand)
    (ho : o.op = .call { callee := .builtin .append, args := #[s, x], argTypes := #[56, 56] })
    (base : Nat) (v : Value) (l : List Int) (g n : Nat) (xs : List Int) (hs : a.eval s = v) (hown : OwnI w base v l) (hx : a.eval x = .slice (some ⟨g, 0, none⟩) n n) (hn : xs.length = n)
    (hc : ∀ j u, xs[j]? = some u → w.cell? ⟨g, j, none⟩ = some (.int .i64 u)) (hlen : l.length + n ≤ 1000000000) (hbase : base ≤ w.heap.size)
    (h : ∀ v' w', OwnI w' base v' (l ++ xs) → Below base w w' → (∀ g, g < w.heap.size → v.ownBlock ≠ some g → w'.heap[g]? = w.heap[g]?) → wpList Try.prog ops Q rest (a.put o.dst v') w') : wpList Try.prog ops Q (o :: rest) a w := by
  subst hn
  obtain ⟨i0, hi0, hz0, hz1, hz2⟩ := info_parts info_i64
  refine wpList_append_own w hgd s x 56 ho base 2 i0 _ 1 8 Try.underlying56 hi0 hz0 hz1 hz2 rfl (by decide) v l.length (ivs l) hs hown
    ⟨g, 0, none⟩ xs.length xs.length (ivs xs) hx (by unfold ivs; simp) ?_ ?_ (by unfold maxLen; omega) (by omega) hbase ?_
  · intro j u hu
    unfold ivs at hu
    rw [List.getElem?_map] at hu
    cases hj : xs[j]? with
    | none => rw [hj] at hu; cases hu
    | some y =>
      rw [hj] at hu
      simp at hu
      subst hu
      have hadd : (⟨g, 0, none⟩ : Addr).add j = ⟨g, j, none⟩ := by unfold Addr.add; split <;> simp_all
      rw [hadd]
      exact hc j y hj
  · intro u hu
    unfold ivs at hu
    obtain ⟨y, _, rfl⟩ := List.mem_map.1 hu
    rfl
  · intro v' w' hown' hg _
    refine h v' w' ?_ ?_ fun k hk hne => hg.block k hk (fun e => hne e.symm)
    · unfold OwnI ivs
      rw [List.map_append, List.length_append]
      exact hown'
    · exact (Below.refl base w).grown hg hbase fun k hk => (hown.lt k hk).1
theorem two_cells {w : World} {g : Nat} {x y : Int} (h : w.heap[g]? = some (.cells #[.int .i64 x, .int .i64 y] 2 (0, 0))) : ∀ j u, [x, y][j]? = some u → w.cell? ⟨g, j, none⟩ = some (.int .i64 u) := by
  intro j u hu
  match j, hu with
  | 0, hu => simp at hu; subst hu; simp [World.cell?, h]
  | 1, hu => simp at hu; subst hu; simp [World.cell?, h]
theorem one_cell {w : World} {g : Nat} {x : Int} (h : w.heap[g]? = some (.cells #[.int .i64 x] 2 (0, 0))) : ∀ j u, [x][j]? = some u → w.cell? ⟨g, j, none⟩ = some (.int .i64 u) := by
  intro j u hu
  match j, hu with
  | 0, hu => simp at hu; subst hu; simp [World.cell?, h]
theorem two_new {w : World} (o : Obj) (x y : Int) : ((w.alloc o).alloc (.cells #[.int .i64 x, .int .i64 y] 2)).heap[w.heap.size + 1]? = some (.cells #[.int .i64 x, .int .i64 y] 2 (0, 0)) := by
  simpa using heap_alloc_new (w.alloc o) (.cells #[.int .i64 x, .int .i64 y] 2)
theorem one_new {w : World} (x : Int) : (w.alloc (.cells #[.int .i64 x] 2)).heap[w.heap.size]? = some (.cells #[.int .i64 x] 2 (0, 0)) := heap_alloc_new w _
theorem two_box (w : World) (x y : Value) (o : Obj) : ((w.alloc (.cells #[x, y] 45)).alloc o).heap[w.heap.size]? = some (.cells #[x, y] 45 (0, 0)) := (Below.heap_alloc _ _ _ (by simp)).trans (heap_alloc_new w _)
theorem candI_len (l : List (Int × Int)) (acc : List Int) : (l.foldl candI acc).length = acc.length + 2 * l.length := by
  induction l generalizing acc with
  | nil => rfl
  | cons s l ih => rw [List.foldl_cons, ih]; unfold candI; simp; omega
theorem candF_len (l : List (Int × Int)) (acc : List Int) : (l.foldl candF acc).length ≤ acc.length + 3 * l.length := by
  induction l generalizing acc with
  | nil => simp
  | cons s l ih =>
    rw [List.foldl_cons]
    refine Nat.le_trans (ih _) ?_
    unfold candF
    split <;> simp <;> omega
theorem tkl_bd {B : Int} (l : List Int) (hl : ∀ u ∈ l, -B ≤ u ∧ u ≤ B) : ∀ st : Int × Bool, -B ≤ st.1 ∧ st.1 ≤ B → -B ≤ (l.foldl tk st).1 ∧ (l.foldl tk st).1 ≤ B := by
  induction l with
  | nil => intro st h; exact h
  | cons s l ih => intro st h; exact ih (fun x hx => hl x (by simp [hx])) _ (tk_bd h (hl s (by simp)))

set_option maxRecDepth 100000 in
set_option maxHeartbeats 2000000 in
theorem leastR_any (w : World) (v0 : Value) (d : Nm) (h0 : NmAt w v0 d) (hs : Sz 1000000 d) :
    Calls Try.prog 21 #[v0] w fun e w' => e = .returned (.tuple #[.int .i64 (leastR d).1, .bool (leastR d).2]) ∧ Ext w w' := by
  have g0 := h0
  obtain ⟨A0, c0, B0, e0, rfl, x0, y0⟩ := g0
  have b0 : BlkN (w.alloc (.cells #[.slice A0 d.ints.length c0, .slice B0 d.fracs.length e0] 24)) w.heap.size (.slice A0 d.ints.length c0) (.slice B0 d.fracs.length e0) := by simpa using BlkN.new w (.slice A0 d.ints.length c0) (.slice B0 d.fracs.length e0)
  have hEW : Ext w (w.alloc (.cells #[.slice A0 d.ints.length c0, .slice B0 d.fracs.length e0] 24)) := (Ext.refl w).alloc _
  have k0 := h0.ext hEW
  have f0a := fun w' (h : Ext (w.alloc (.cells #[.slice A0 d.ints.length c0, .slice B0 d.fracs.length e0] 24)) w') => (b0.ext h).cell0
  have f0b := fun w' (h : Ext (w.alloc (.cells #[.slice A0 d.ints.length c0, .slice B0 d.fracs.length e0] 24)) w') => (b0.ext h).cell1
  have K0 := Lib.hid k0
  have si0 : SpAt (w.alloc (.cells #[.slice A0 d.ints.length c0, .slice B0 d.fracs.length e0] 24)) (.slice A0 d.ints.length c0) d.ints := ⟨A0, c0, rfl, x0.ext hEW⟩
  have sf0 : SpAt (w.alloc (.cells #[.slice A0 d.ints.length c0, .slice B0 d.fracs.length e0] 24)) (.slice B0 d.fracs.length e0) d.fracs := ⟨B0, e0, rfl, y0.ext hEW⟩
  have SI0 := Lib.hid si0
  have SF0 := Lib.hid sf0
  clear si0 sf0
  have HE := Lib.hid hEW
  clear hEW b0 h0 k0 x0 y0
  go_enter Try.func21, Try.ntmps21
  go_wp2_with fail
  refine (makeR_any _ _ d K0.out (hs.mono (by omega))).mono ?_
  rintro e w1 ⟨r, rfl, ⟨A8, c8, B8, e8, rfl, i8, f8⟩, hE1⟩
  have szm := makeR_sz hs
  have bdi := makeR_rI d
  have bdf := makeR_bddF d
  have HD : Hid (leastR d = if (makeR d).ints.any zeroB then (0, true) else ((makeR d).fracs.foldl candF ((makeR d).ints.foldl candI [])).foldl tk (0, false)) := Lib.hid rfl
  have HE1 := Lib.hid (HE.out.trans hE1)
  clear hE1 f0a f0b SI0 SF0 K0 HE
  generalize makeR d = m at *
  obtain ⟨l, l'⟩ := m
  simp only at *
  obtain ⟨sz1, sz2⟩ := szm
  simp only at sz1 sz2
  have b3 := BlkN.new w1 (.slice A8 l.length c8) (.slice B8 l'.length e8)
  have hi8 := i8.ext ((Ext.refl w1).alloc (.cells #[.slice A8 l.length c8, .slice B8 l'.length e8] 24))
  have hf8 := f8.ext ((Ext.refl w1).alloc (.cells #[.slice A8 l.length c8, .slice B8 l'.length e8] 24))
  have hEW := (HE1.out).alloc (.cells #[.slice A8 l.length c8, .slice B8 l'.length e8] 24)
  go_wp2_with fail
  generalize w1.alloc (.cells #[.slice A8 l.length c8, .slice B8 l'.length e8] 24) = Wn at *
  clear i8 f8
  have HB3 := Lib.hid b3
  have HEW := Lib.hid hEW
  clear b3 hEW HE1
  go_loopw [5, 7, 19] (fun v _ i wr => ∃ (k : Nat), k ≤ l.length ∧ i = .int .i64 k ∧ Hid ((l.take k).any zeroB = false) ∧ Hid (OwnI wr Wn.heap.size v ((l.take k).foldl candI [])) ∧ Ext Wn wr) (fun _ _ i _ => l.length - (intOf i).toNat)
  case atStart => exact ⟨0, Nat.zero_le _, rfl, rfl, OwnI.nil _ _, Ext.refl _⟩
  case round =>
    obtain ⟨k, hk, rfl, Hz, Hown, hE⟩ := hrel
    by_cases hlt : k < l.length
    · have hstep : Hid ((l.take (k + 1)).foldl candI [] = candI ((l.take k).foldl candI []) l[k]) := Lib.hid (by rw [foldl_take candI _ l k hlt])
      have hz := any_take zeroB l k hlt
      rw [Hz.out, Bool.false_or] at hz
      have hin : zeroB l[k] = true → Hid (l.any zeroB = true) := fun h => Lib.hid (List.any_eq_true.2 ⟨_, List.getElem_mem hlt, h⟩)
      have hs := bdi l[k] (List.getElem_mem hlt)
      have hcl : ((l.take k).foldl candI []).length ≤ 2 * k := by rw [candI_len, List.length_take]; simp; omega
      obtain ⟨b, off, rfl, hbB, hc0, hc1⟩ := hi8.at_ hlt
      have hd0 := (hE.cell ⟨b, off + k * 2, none⟩ hbB).trans hc0
      have hd1 := (hE.cell ⟨b, off + k * 2 + 1, none⟩ hbB).trans hc1
      clear hc0 hc1 hi8
      generalize l[k] = s at *
      generalize (l.take k).foldl candI [] = acc at *
      obtain ⟨lo, hi⟩ := s
      simp only [zeroB] at hd0 hd1 hs hz hin
      obtain ⟨⟨t1, t2⟩, t3, t4⟩ := hs
      have hown := Hown.out
      obtain ⟨Av, cv, rfl⟩ := hown.form
      have HC := Lib.hid hE.size
      by_cases h1 : lo ≤ 0
      · by_cases h2 : hi ≥ 0
        · have Hin := hin (by simp [h1, h2])
          clear hin hz hstep hown
          go_wp2
          refine bodyPost_ret (results_tmp2 rfl _ _ _) rfl ⟨by rw [HD.out, if_pos Hin.out] <;> rfl, HEW.out.trans (hE.alloc _)⟩
        · have Hst : Hid ((l.take (k + 1)).any zeroB = false) := Lib.hid (hz.trans (by simp [h2]))
          clear hin hz
          clear hown
          go_wp2_with (at_builtin; refine app_i rfl _ _ rfl Wn.heap.size _ acc _ _ [lo * 10000, hi * 10000] rfl ((Hown.out.alloc _).alloc _) rfl rfl (two_cells (two_new _ _ _)) (by omega) (by have := HC.out; simp; omega) ?_)
          intro v' w1 hown1 hB1 _
          have hE1 : Ext Wn w1 := ((hE.alloc _).alloc _).trans' hB1
          clear hB1
          have HO1 := Lib.hid hown1
          clear hown1
          go_wp2
          go_roundw
          case rel => exact ⟨k + 1, by omega, by go_num, Hst, by rw [hstep.out]; exact HO1, hE1⟩
          case measure => simp [intOf]; omega
      · have Hst : Hid ((l.take (k + 1)).any zeroB = false) := Lib.hid (hz.trans (by simp [h1]))
        clear hin hz
        clear hown
        go_wp2_with (at_builtin; refine app_i rfl _ _ rfl Wn.heap.size _ acc _ _ [lo * 10000, hi * 10000] rfl ((Hown.out.alloc _).alloc _) rfl rfl (two_cells (two_new _ _ _)) (by omega) (by have := HC.out; simp; omega) ?_)
        intro v' w1 hown1 hB1 _
        have hE1 : Ext Wn w1 := ((hE.alloc _).alloc _).trans' hB1
        clear hB1
        have HO1 := Lib.hid hown1
        clear hown1
        go_wp2
        go_roundw
        case rel => exact ⟨k + 1, by omega, by go_num, Hst, by rw [hstep.out]; exact HO1, hE1⟩
        case measure => simp [intOf]; omega
    · have hkl : k = l.length := by omega
      subst hkl
      have hx := Hz.out
      have hy := Hown.out
      rw [List.take_of_length_le (Nat.le_refl _)] at hx hy
      have HD2 : Hid (leastR d = (l'.foldl candF (l.foldl candI [])).foldl tk (0, false)) := Lib.hid (by rw [HD.out, if_neg (by rw [hx]; simp)])
      have hbc : Hid (∀ u ∈ l'.foldl candF (l.foldl candI []), -4000000000000000000 ≤ u ∧ u ≤ 4000000000000000000) := Lib.hid (fun u hu => by
        rw [candF_mem, candI_mem] at hu
        rcases hu with (hu | ⟨s, hs, hu⟩) | ⟨s, hs, hu⟩
        · exact (by cases hu)
        · have := bdi s hs
          omega
        · have := bdf s hs
          omega)
      have hcl : (l.foldl candI []).length ≤ 2000000 := by rw [candI_len]; simp; omega
      generalize l.foldl candI [] = acc0 at *
      have Hown2 := Lib.hid hy
      have hq0 := (HB3.out.ext hE).cell0
      have hq1 := (HB3.out.ext hE).cell1
      obtain ⟨wo, rfl⟩ : ∃ wo : World, wo = wr := ⟨_, rfl⟩
      clear hx hy hi8 hlt hk Hz Hown bdi HD
      go_wp2_with fail
      go_loopw [5, 9, 44] (fun v _ i wr => ∃ (k : Nat), k ≤ l'.length ∧ i = .int .i64 k ∧ Hid (OwnI wr Wn.heap.size v ((l'.take k).foldl candF acc0)) ∧ Ext Wn wr) (fun _ _ i _ => l'.length - (intOf i).toNat)
      case atStart => exact ⟨0, Nat.zero_le _, rfl, Hown2, hE⟩
      case round =>
        obtain ⟨k, hk, rfl, Hown, hE2⟩ := hrel
        by_cases hlt : k < l'.length
        · have hstep : Hid ((l'.take (k + 1)).foldl candF acc0 = candF ((l'.take k).foldl candF acc0) l'[k]) := Lib.hid (by rw [foldl_take candF _ l' k hlt])
          have hs := bdf l'[k] (List.getElem_mem hlt)
          have hcl2 : ((l'.take k).foldl candF acc0).length ≤ 2000000 + 3 * k := Nat.le_trans (candF_len _ _) (by rw [List.length_take]; omega)
          obtain ⟨b, off, rfl, hbB, hc0, hc1⟩ := hf8.at_ hlt
          have hd0 := (hE2.cell ⟨b, off + k * 2, none⟩ hbB).trans hc0
          have hd1 := (hE2.cell ⟨b, off + k * 2 + 1, none⟩ hbB).trans hc1
          clear hc0 hc1 hf8
          generalize l'[k] = s at *
          generalize (l'.take k).foldl candF acc0 = acc at *
          obtain ⟨lo, hi⟩ := s
          simp only at hd0 hd1 hs
          obtain ⟨t1, t2, t3, t4⟩ := hs
          have HC := Lib.hid hE2.size
          have hown := Hown.out
          obtain ⟨Av, cv, rfl⟩ := hown.form
          clear hown
          go_wp2_with (at_builtin; refine app_i rfl _ _ rfl Wn.heap.size _ acc _ _ [lo, hi] rfl ((Hown.out.alloc _).alloc _) rfl rfl (two_cells (two_new _ _ _)) (by omega) (by have := HC.out; simp; omega) ?_)
          intro v' w2 hown1 hB1 hold
          have hby := (hold wr.heap.size (by first | omega | simp | (simp; omega)) (fun e => by have := (Hown.out.lt _ e).2; omega)).trans (two_box wr _ _ _)
          have e0 : w2.cell? ⟨wr.heap.size, 0, none⟩ = some (.int .i64 lo) := Blk2.cell0 hby
          have e1 : w2.cell? ⟨wr.heap.size, 1, none⟩ = some (.int .i64 hi) := Blk2.cell1 hby
          have hE1 : Ext Wn w2 := ((hE2.alloc _).alloc _).trans' hB1
          clear hB1 hold hby hd0 hd1
          have HO1 := Lib.hid hown1
          have HC1 := Lib.hid hE1.size
          clear Hown hown1
          have hcf : Hid (candF acc (lo, hi) = if decide (lo < 0) && decide (hi > 0) then acc ++ [lo, hi] ++ [1] else acc ++ [lo, hi]) := Lib.hid rfl
          by_cases h1 : lo < 0
          · by_cases h2 : hi > 0
            · have hcf2 : Hid (candF acc (lo, hi) = acc ++ [lo, hi, 1]) := Lib.hid (by rw [hcf.out, if_pos (by simp [h1, h2])]; simp)
              go_wp2_with (at_builtin; refine app_i rfl _ _ rfl Wn.heap.size _ (acc ++ [lo, hi]) _ _ [1] rfl (HO1.out.alloc _) rfl rfl (one_cell (one_new _)) (by simp; omega) (by have := HC1.out; simp; omega) ?_)
              intro v'' w3 hown3 hB3 _
              have hE3 : Ext Wn w3 := (hE1.alloc _).trans' hB3
              clear hB3
              have HO3 := Lib.hid hown3
              clear hown3
              go_wp2
              go_roundw
              case rel => exact ⟨k + 1, by omega, by go_num, by rw [hstep.out, hcf2.out]; exact HO3, hE3⟩
              case measure => simp [intOf]; omega
            · have hcf2 : Hid (candF acc (lo, hi) = acc ++ [lo, hi]) := Lib.hid (by rw [hcf.out, if_neg (by simp [h2])])
              go_wp2
              go_roundw
              case rel => exact ⟨k + 1, by omega, by go_num, by rw [hstep.out, hcf2.out]; exact HO1, hE1⟩
              case measure => simp [intOf]; omega
          · have hcf2 : Hid (candF acc (lo, hi) = acc ++ [lo, hi]) := Lib.hid (by rw [hcf.out, if_neg (by simp [h1])])
            go_wp2
            go_roundw
            case rel => exact ⟨k + 1, by omega, by go_num, by rw [hstep.out, hcf2.out]; exact HO1, hE1⟩
            case measure => simp [intOf]; omega
        · have hkl : k = l'.length := by omega
          subst hkl
          have hy := Hown.out
          rw [List.take_of_length_le (Nat.le_refl _)] at hy
          have hcl2 : (l'.foldl candF acc0).length ≤ 6000000 := Nat.le_trans (candF_len _ _) (by omega)
          generalize l'.foldl candF acc0 = L at *
          obtain ⟨Av, cv, rfl⟩ := hy.form
          have HO := Lib.hid hy
          have HEr := Lib.hid hE2
          obtain ⟨wo, rfl⟩ : ∃ wo : World, wo = wr := ⟨_, rfl⟩
          clear hy hf8 hlt hk Hown bdf hE2 hq0 hq1 hE HB3 Hown2
          go_wp2_with fail
          go_loopw [10, 11, 13, 69] (fun vb vf _ i wr => ∃ (k : Nat) (st : Int × Bool), k ≤ L.length ∧ i = .int .i64 k ∧ vb = .int .i64 st.1 ∧ vf = .bool st.2 ∧ Hid ((L.take k).foldl tk (0, false) = st) ∧ Ext wo wr) (fun _ _ _ i _ => L.length - (intOf i).toNat)
          case atStart => exact ⟨0, (0, false), Nat.zero_le _, rfl, rfl, rfl, rfl, Ext.refl _⟩
          case round =>
            obtain ⟨k, ⟨best, found⟩, hk, rfl, rfl, rfl, Hst, hE⟩ := hrel
            have hbb := tkl_bd (B := 4000000000000000000) (L.take k) (fun u hu => hbc.out u (List.mem_of_mem_take hu)) (0, false) (by simp only; omega)
            rw [Hst.out] at hbb
            simp only at hbb
            by_cases hlt : k < L.length
            · have hstep : Hid ((L.take (k + 1)).foldl tk (0, false) = tk (best, found) L[k]) := Lib.hid (by rw [foldl_take tk _ L k hlt, Hst.out])
              have hu := hbc.out L[k] (List.getElem_mem hlt)
              obtain ⟨b, rfl, hbB, hc0⟩ := HO.out.cell hlt
              have hd0 := (hE.cell ⟨b, k, none⟩ hbB).trans hc0
              clear hc0
              generalize L[k] = u at *
              have hcon := fun W' => nearerR_any u best W' hu.1 hu.2 hbb.1 hbb.2
              have htk : Hid (tk (best, found) u = if !found || nearerB u best then (u, true) else (best, found)) := Lib.hid rfl
              generalize nearerB u best = nb at *
              cases found
              · have ht2 : Hid (tk (best, false) u = (u, true)) := Lib.hid (by rw [htk.out]; simp)
                go_wp2
                go_roundw
                case rel => exact ⟨k + 1, (u, true), by omega, by go_num, rfl, rfl, Lib.hid (by rw [hstep.out, ht2.out]), hE⟩
                case measure => simp [intOf]; omega
              · cases nb
                · have ht2 : Hid (tk (best, true) u = (best, true)) := Lib.hid (by rw [htk.out]; simp)
                  go_wp2_with (go_at_call 32; refine (hcon _).mono ?_; rintro e w' ⟨rfl, rfl⟩)
                  go_roundw
                  case rel => exact ⟨k + 1, (best, true), by omega, by go_num, rfl, rfl, Lib.hid (by rw [hstep.out, ht2.out]), hE⟩
                  case measure => simp [intOf]; omega
                · have ht2 : Hid (tk (best, true) u = (u, true)) := Lib.hid (by rw [htk.out]; simp)
                  go_wp2_with (go_at_call 32; refine (hcon _).mono ?_; rintro e w' ⟨rfl, rfl⟩)
                  go_roundw
                  case rel => exact ⟨k + 1, (u, true), by omega, by go_num, rfl, rfl, Lib.hid (by rw [hstep.out, ht2.out]), hE⟩
                  case measure => simp [intOf]; omega
            · have hkl : k = L.length := by omega
              subst hkl
              have hx2 := Hst.out
              rw [List.take_of_length_le (Nat.le_refl _)] at hx2
              have HX := Lib.hid hx2
              clear hx2
              go_wp2
              refine bodyPost_ret (results_tmp2 rfl _ _ _) rfl ⟨by rw [HD2.out, HX.out] <;> rfl, HEW.out.trans (HEr.out.trans hE)⟩

end Go.Proofs.Ytaianhhmmacblaa
