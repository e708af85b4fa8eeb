import Derived.Test.YtaianhhmmacblaaRelOps
import Derived.Laws.CopyRow
import Derived.Laws.IdiomCopy
import Derived.Laws.OwnMore
import Derived.Test.YtaianhhmmacblaaShelf
/-
  The sort of spans by their lower ends; a copy of spans.
-/
namespace Go.Proofs.Ytaianhhmmacblaa
open Go.RowKit Go.Shelf Go.Sort
open Go.Proofs

theorem isNaN_any (x : Int) (w : World) : Calls Try.prog 92 #[.int .i64 x] w fun e w' => e = .returned (.bool false) ∧ w = w' := by
  go_enter Try.func92, Try.ntmps92
  go_wp2
  go_ret
  exact ⟨by simp, rfl⟩

theorem compare_any (x y : Int) (w : World) : Calls Try.prog 86 #[.int .i64 x, .int .i64 y] w fun e w' => e = .returned (.int .i64 (Lib.compareInt x y)) ∧ w = w' := by
  have hd : Lib.compareInt x y = if x < y then -1 else if y < x then 1 else 0 := rfl
  generalize Lib.compareInt x y = r at hd ⊢
  by_cases h1 : x < y
  · rw [if_pos h1] at hd
    subst hd
    go_enter Try.func86, Try.ntmps86
    go_wp2_with (go_at_call 92; refine (isNaN_any _ _).mono ?_; rintro e w' ⟨rfl, rfl⟩)
    go_ret
    exact ⟨rfl, rfl⟩
  · rw [if_neg h1] at hd
    by_cases h2 : y < x
    · rw [if_pos h2] at hd
      subst hd
      go_enter Try.func86, Try.ntmps86
      go_wp2_with (go_at_call 92; refine (isNaN_any _ _).mono ?_; rintro e w' ⟨rfl, rfl⟩)
      go_ret
      exact ⟨rfl, rfl⟩
    · rw [if_neg h2] at hd
      subst hd
      go_enter Try.func86, Try.ntmps86
      go_wp2_with (go_at_call 92; refine (isNaN_any _ _).mono ?_; rintro e w' ⟨rfl, rfl⟩)
      go_ret
      exact ⟨rfl, rfl⟩

def encSp (x : Sp) : List Value := [.int .i64 x.1, .int .i64 x.2]

theorem closure85 (x y : Sp) (W : World) : Calls Try.prog 85 #[.agg #[.int .i64 x.1, .int .i64 x.2], .agg #[.int .i64 y.1, .int .i64 y.2]] W fun e w' => e = .returned (.int .i64 (Lib.compareInt x.1 y.1)) ∧ ∃ q os', w' = grow (W.drewN q) os' := by
  have hcon := fun W' => compare_any x.1 y.1 W'
  generalize Lib.compareInt x.1 y.1 = r at hcon ⊢
  go_enter Try.func85, Try.ntmps85
  go_wp2_with (go_at_call 86; refine (hcon _).mono ?_; rintro e w' ⟨rfl, rfl⟩)
  go_ret
  exact ⟨rfl, 0, _, by rw [alloc_eq_grow, alloc_eq_grow, grow_grow]; rfl⟩

def cfSp (x y : Sp) : Int := Lib.compareInt x.1 y.1
theorem ltSp (x y : Sp) : ltOf cfSp x y = decide (x.1 < y.1) := by
  unfold ltOf cfSp Lib.compareInt
  by_cases h1 : x.1 < y.1
  · simp [h1]
  · by_cases h2 : y.1 < x.1 <;> simp [h1, h2]
theorem swoSp : SWO (ltOf cfSp) where
  irrefl x := by rw [ltSp]; simp
  trans x y z h1 h2 := by rw [ltSp] at *; simp at *; omega
  ntrans x y z h1 h2 := by rw [ltSp] at *; simp at *; omega

theorem below_sortWorld (w : World) (g n : Nat) (d : Array Sp) (os : Array Obj) (hg : g < w.heap.size) : Below g w (sortWorldK encSp 2 w g 0 n d os) := by
  refine ⟨rfl, rfl, rfl, ?_, fun k hk => ?_⟩
  · exact size_sortWorldK_c encSp 2 w g 0 n d os
  · show (w.heap.modify g _ ++ os)[k]? = _
    rw [Array.getElem?_append_left (by simp; omega), Array.getElem?_modify, if_neg (by omega)]

theorem sortSp_any (w : World) (g : Nat) (l : List Sp) (c : Nat) (hg : w.heap[g]? = some (.cells (spc l).toArray 45 (0, 0))) (hl : l.length ≤ 100000000) :
    Calls Try.prog 84 #[.slice (some ⟨g, 0, none⟩) l.length c, .func (.func 85) #[] #[]] w fun e w' => e = .returned (.tuple #[]) ∧
      ∃ l' : List Sp, l'.Perm l ∧ l'.Pairwise (fun a b => a.1 ≤ b.1) ∧ SlAt w' (g + 1) (some ⟨g, 0, none⟩) l' ∧ Below g w w' := by
  have eg : ∀ args w, (callFunc 85 args).run Try.prog w = .ok (.enter 85 args) w := enters_of Try.func85 (by kernel_rfl) rfl
  have hlt : g < w.heap.size := by
    rcases Nat.lt_or_ge g w.heap.size with h | h
    · exact h
    · rw [Array.getElem?_eq_none h] at hg; cases hg
  have hH : HoldsK encSp 2 w g 0 l.toArray := by
    intro t ht
    rw [size_flatK] at ht
    rw [get_flatK _ _ _ _ ht]
    simp at ht
    have hk : t / 2 < l.length := by omega
    have hgg := spc_get l (t / 2) l[t / 2] (List.getElem?_eq_getElem hk)
    refine ⟨?_, by simp [World.frozen?, hg]⟩
    simp only [World.cell?, hg, Nat.zero_add]
    rcases Nat.mod_two_eq_zero_or_one t with h0 | h0
    · have e1 := hgg.1
      rw [show t / 2 * 2 = t by omega] at e1
      simp [e1, h0, encSp, hk]
    · have e1 := hgg.2
      rw [show t / 2 * 2 + 1 = t by omega] at e1
      simp [e1, h0, encSp, hk]
  have hcmp : CmpLays Try.prog 85 #[] encSp 2 cfSp g 0 l.toArray.size w := fun _ _ _ _ x y => closure85 x y _
  have hcon := AnyQ.slices_SortFunc Try.sortSp 2 (fun w => Try.isAgg45 w) (fun w => Try.sizeOf45 w) encSp (fun _ => rfl) (fun x v hv => by simp [encSp] at hv; rcases hv with rfl | rfl <;> rfl) cfSp swoSp 85 #[] g 0 c l.toArray w eg hcmp hH hlt (by simp; omega)
  refine Calls.mono hcon ?_
  rintro e w' ⟨rfl, d', n, os, hp, hs, rfl⟩
  have hds : d'.size = l.toArray.size := hp.1
  have hd : d'.toList.Perm l := by
    have := hp.2.2
    rw [← hds] at this
    simp [hds] at this
    have ht : d'.toList.take l.length = d'.toList := List.take_of_length_le (by simp at hds; simp; omega)
    rwa [ht] at this
  have hh := holdsK_sortWorldK_c encSp 2 w g 0 l.toArray d' n os hH hlt hds
  refine ⟨rfl, d'.toList, hd, ?_, ?_, below_sortWorld w g n d' os hlt⟩
  · rw [List.pairwise_iff_getElem]
    intro i j hi hj hij
    have := hs i j (Nat.zero_le _) hij (by rw [← hds]; simpa using hj)
    rw [ltSp] at this
    simp at hi hj
    simp [hi, hj] at this
    simpa using this
  · intro _
    refine ⟨g, 0, rfl, by omega, fun k s hs => ?_⟩
    have hk := (List.getElem?_eq_some_iff.1 hs).1
    have he := (List.getElem?_eq_some_iff.1 hs).2
    simp at hk he
    have h0 := (hh.cell (i := k) (c := 0) hk (by omega)).1
    have h1 := (hh.cell (i := k) (c := 1) hk (by omega)).1
    simp [hk, he, encSp] at h0 h1
    exact ⟨by simpa using h0, by simpa using h1⟩

set_option maxRecDepth 100000 in
/-- 'copy' of all of a slice of spans into a row of as many -/
theorem run_copy_all (w : World) (ty : TypeId) (g c c' B : Nat) (l : List Sp) (A : Option Addr) (cur : Array Value) (hg : w.heap[g]? = some (.cells cur 45 (0, 0))) (hc : cur.size = l.length * 2) (hA : SlAt w B A l) :
    (Builtin.copy_ #[22, 22] ty #[.slice (some ⟨g, 0, none⟩) l.length c, .slice A l.length c']).run Try.prog w = .ok (goInt l.length) (w.setRow g (spc l).toArray) := by
  obtain ⟨i0, hi0, hz0, hz1, hz2⟩ := info_parts info_span
  have hu := Try.underlying22
  have hst := run_storeCells_at Try.prog g 0 45 (spc l) 0 cur w hg (by rw [spc_length]; omega) (spc_oneCell l)
  have hcells : (cur.toList.take (0 + 0) ++ spc l ++ cur.toList.drop (0 + 0 + (spc l).length)).toArray = (spc l).toArray := by
    rw [spc_length, List.drop_of_length_le (by simp; omega)]; simp
  rw [hcells] at hst
  cases A with
  | none =>
    have hl : l = [] := Classical.byContradiction fun hne => by
      obtain ⟨b, off, e, _⟩ := hA hne
      cases e
    subst hl
    have hw : w.setRow g (spc []).toArray = w := by
      have hcur : cur = #[] := by apply Array.eq_empty_of_size_eq_zero; simpa using hc
      subst hcur
      exact setRow_self w g #[] _ (0, 0) hg
    rw [hw]
    simp [Builtin.copy_, run_underlying hu, Builtin.lenOf, Builtin.firstCells, sizeOf, typeInfo, hi0, storeCells]
  | some ad =>
    have hl := run_loadCells_list (P := Try.prog) w ad (spc l) (fun j u hu => by
      have hl2 : l ≠ [] := fun e => by subst e; simp [spc] at hu
      obtain ⟨b, off, e, _, hcc⟩ := hA hl2
      injection e with e
      subst e
      have hjl : j < l.length * 2 := by
        rw [← spc_length]
        exact (List.getElem?_eq_some_iff.1 hu).1
      have hk : j / 2 < l.length := by omega
      have hc2 := hcc (j / 2) l[j / 2] (List.getElem?_eq_getElem hk)
      have hgg := spc_get l (j / 2) l[j / 2] (List.getElem?_eq_getElem hk)
      have hadd : (⟨b, off, none⟩ : Addr).add j = ⟨b, off + j, none⟩ := by
        unfold Addr.add
        split
        · rename_i h0; subst h0; rfl
        · rfl
      rw [hadd]
      rcases Nat.mod_two_eq_zero_or_one j with h0 | h0
      · have ej : j / 2 * 2 = j := by omega
        rw [ej] at hc2 hgg
        rw [hgg.1] at hu
        rw [hc2.1, ← hu]
      · have ej : j / 2 * 2 + 1 = j := by omega
        have ej2 : off + j / 2 * 2 + 1 = off + j := by omega
        rw [ej] at hgg
        rw [ej2] at hc2
        rw [hgg.2] at hu
        rw [hc2.2, ← hu])
    rw [spc_length] at hl
    simp [Builtin.copy_, run_underlying hu, Builtin.lenOf, Builtin.firstCells, sizeOf, typeInfo, hi0, hz1, hl, hst]
end Go.Proofs.Ytaianhhmmacblaa
