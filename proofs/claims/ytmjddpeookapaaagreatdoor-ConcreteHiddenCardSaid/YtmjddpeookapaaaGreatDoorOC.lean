/- For ConcreteHidden: from contracts to runs. -/
import Derived.Below
import Derived.Lib.LaidTab
import Derived.MakeChecks
import Derived.Test.YtmjddpeookapaaaGreatDoorOB
import Derived.Test.YtmjddpeookapaaaGreatDoorMo
import Derived.Test.YtmjddpeookapaaaGreatDoorSG
set_option linter.unusedVariables false
set_option linter.unusedSimpArgs false
set_option linter.unusedSectionVars false
namespace Go.Proofs.YtmjddpeookapaaaGreatDoor
open Go.RowKit
noncomputable def u9 (e : TypeId) (f : Nat × Nat) : Sv.Loc := .row (some Sv.jq.g) 0 0 (.tuple #[.int .i64 (e : Nat), .int .i64 (f.1 : Nat), .int .i64 (f.2 : Nat)])
noncomputable def tabC (W : World) (e : TypeId) (f : Nat × Nat) : Sv.Ctx := ⟨fun k => if k = 0 then some (u9 e f) else none, fzW W⟩
noncomputable def tabSt : Sv.St := ⟨[(0, Sv.aS)], 1, 0, [], []⟩
def PowAt (W : World) : Prop := ∃ arr e f, W.heap[Sv.jq.g]? = some (.cells arr e f) ∧ arr.toList = Sv.pow10.map (Value.int .u64)
theorem den_tab {c : Sv.Ctx} : ∀ l : List Int, Sv.aM c (l.map (Sv.SVal.int .u64)) (l.map (Value.int .u64))
 | [] => rfl
 | x :: l => ⟨_, _, rfl, den_tab l, rfl⟩
theorem run_law {F : FuncId} {args : List Sv.SVal} (h : Sv.aY Tryz.prog F args fun s => s = .bool true) {W : World} (ht : PowAt W) {vs : List Value} (hd : ∀ c : Sv.Ctx, c.fz = fzW W → Sv.aM c args vs) : Calls Tryz.prog F vs.toArray W fun e W' => e = .returned (.bool true) ∧ Below W.heap.size W W' := by
 obtain ⟨arr, e, f, h1, h2⟩ := ht
 obtain ⟨hcl, s, o, hm, hs, rfl, rfl⟩ := h
 have hl : tabSt.look 0 = some Sv.aS := rfl
 have hlook : ∀ k o, tabSt.look k = some o → k = 0 ∧ o = Sv.aS := fun k o hk => by
  have hk : Sv.ba [(0, Sv.aS)] k = some o := (Sv.cm hk).1
  rw [Sv.bI] at hk
  split at hk
  ·rename_i e
   exact ⟨e.symm, by cases hk; rfl⟩
  ·cases hk
 have hr : Sv.Rep (tabC W e f) tabSt.look W := by
  refine ⟨fun k o hk => ?_, fun k j o o' l l' r hk hj hkj => ?_, fzW_ok W⟩
  ·obtain ⟨rfl, rfl⟩ := hlook k o hk
   exact ⟨u9 e f, rfl, ⟨rfl, rfl, arr, e, f, rfl, h1, by rw [h2]; exact den_tab _⟩⟩
  ·obtain ⟨rfl, _⟩ := hlook k o hk
   obtain ⟨rfl, _⟩ := hlook j o' hj
   exact absurd rfl hkj
 have hw : Sv.Wf tabSt := by
  refine ⟨fun k hk => ?_, fun k hk => (by cases hk), Nat.zero_le _⟩
  have hk : 1 ≤ k := hk
  show Sv.ba [(0, Sv.aS)] k = none
  rw [Sv.bI, if_neg (by show ¬ 0 = k; omega)]
  rfl
 refine ((Sv.callT hm hcl hs hl).ok hr hw (fun k h1 h2 => by omega) (hd (tabC W e f) rfl)).mono fun x W' ⟨v, he, c', gd⟩ => ?_
 have hv : v = .bool true := gd.val
 have st' := gd.step
 refine ⟨by rw [he, hv], st'.os, st'.tape, st'.output, st'.size, fun k hk => ?_⟩
 by_cases hg : k = Sv.jq.g
 ·subst hg
  obtain ⟨l, hl1, ho⟩ := gd.rep.cW 0 Sv.aS hl
  obtain ⟨l', hl2, hle⟩ := st'.le.ρ 0 (u9 e f) rfl
  rw [hl1] at hl2
  cases hl2
  rcases hle with rfl | ⟨b', st2, sz', u', rfl, hlt⟩
  ·obtain ⟨_, _, arr', e', f', hu, hcell, hden⟩ := ho
   have h3 := mX hden
   rw [h1, hcell]
   have ha : arr' = arr := by
    apply Array.toList_inj.1
    rw [h2, h3]
   simp only [Value.tuple.injEq, Array.mk.injEq, List.cons.injEq, Value.int.injEq, true_and, and_true] at hu
   obtain ⟨e1, e2, e3⟩ := hu
   have e1 : e = e' := Int.ofNat.inj e1
   have e2 : f.1 = f'.1 := Int.ofNat.inj e2
   have e3 : f.2 = f'.2 := Int.ofNat.inj e3
   rw [ha, e1, Prod.ext e2 e3]
  ·obtain ⟨_, h0, _⟩ := ho
   omega
 ·refine st'.kept k hk fun ⟨n, o, l, g1, g2, g3⟩ => ?_
  obtain ⟨rfl, rfl⟩ := hlook n o g1
  have g2 : some (u9 e f) = some l := g2
  cases g2
  have g3 : some Sv.jq.g = some k := g3
  cases g3
  exact hg rfl
def ud : List (String × DataW Unit) := [("math/bits.deBruijn32tab", Rows.laid_math_bits_deBruijn32tab), ("math/bits.deBruijn64tab", Rows.laid_math_bits_deBruijn64tab), ("internal/strconv.uint64pow10", Rows.laid_internal_strconv_uint64pow10)]
theorem powGlobal : (Tryz.prog.globals[(Sv.jq.g : Nat)]?).map (·.type) = some 366 := by kernel_rfl
theorem cells_u64 : Tryz.prog.cellsOf 308 = 1 := by kernel_rfl
theorem cells_pow : Tryz.prog.cellsOf 366 = 20 := by kernel_rfl
theorem pow_at {W : World} (h : laidMetH Tryz.prog ud W) : PowAt W := by
 rw [MakeChecks.laidMetH_plain _ _ _ (by kernel_rfl)] at h
 obtain ⟨ps, hv, _⟩ := h
 obtain ⟨_, _, _, _, _, _, _, _, _, _, hv, _⟩ := hv
 obtain ⟨_, _, _, _, _, _, _, _, _, _, hv, _⟩ := hv
 obtain ⟨g', t', cs, fuel, p, q, hg', ht', hvar, hd, _, _⟩ := hv
 obtain rfl := Option.some.inj (qi.symm.trans hg')
 obtain rfl := Option.some.inj (powGlobal.symm.trans ht')
 have e := Lib.cells_of_tab (k := .u64) (zs := Sv.pow10) Tryz.underlying366 Tryz.underlying308 cells_u64 cells_pow hd
 unfold World.var? at hvar
 rw [qi] at hvar
 simp only [Option.bind_some] at hvar
 cases hb : W.heap[Sv.jq.g]? with
 | none => rw [hb] at hvar; cases hvar
 | some x =>
  rw [hb] at hvar
  cases x with
  | cells arr ee f =>
   have hvar : arr = cs := Option.some.inj hvar
   exact ⟨arr, ee, f, hb, by rw [hvar]; exact e⟩
  | _ => cases hvar
end Go.Proofs.YtmjddpeookapaaaGreatDoor
