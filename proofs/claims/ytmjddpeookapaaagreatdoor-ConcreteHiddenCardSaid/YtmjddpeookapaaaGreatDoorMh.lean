/- For ConcreteHidden: functions of the program, walked beside Lean functions that say what they compute. -/
import Derived.Test.YtmjddpeookapaaaGreatDoorEn
import Derived.KernelRfl
import Derived.Test.YtmjddpeookapaaaGreatDoorMg
import Derived.Test.YtmjddpeookapaaaGreatDoorSvG
set_option linter.unusedVariables false
set_option linter.unusedSimpArgs false
set_option linter.unusedSectionVars false
namespace Go.Proofs.YtmjddpeookapaaaGreatDoor
open Sv
set_option maxRecDepth 100000
set_option maxHeartbeats 2000000
def gdS (sc : bW) : List (aI Va) → Option Bool
 | [] => jv sc
 | c :: r => (mV c.fields).bind fun ok => if ok then (clsM c).bind fun ok => if ok then gdS sc r else some false else some false
def gdL (sc : bW) (ss : List (aI Va)) : List (aT Va) → Option Bool
 | [] => (aN ss).bind fun _ => gdS sc ss
 | c :: r => (aN c.rest).bind fun _ => if (c.rest.length : Int) > 1 then some false else gdL sc ss r
def yE (v : Vlu Va) : Option Bool := if v.any then (tS v.sc).bind fun c => if c then (aN v.lists).bind fun _ => (aN v.structs).bind fun _ => some (decide ((v.lists.length : Int) + v.structs.length = 0)) else some false
 else (aN v.lists).bind fun _ => gdL v.sc v.structs v.lists
theorem goodV_ok {v : Vlu Va} {r : Bool} (hm : yE v = some r) : aY Tryz.prog 134 [.agg (bM eVa v)] fun s => s = .bool r := by
 refine ht aa Tryz.f134 ?_
 unfold yE at hm
 refine z ?_
 refine brk (fun h1 => z ?_) (fun h1 => z ?_)
 rw [if_pos h1] at hm
 obtain ⟨v2, e2, hm⟩ := ae hm
 refine ce (yd e2) (z ?_)
 refine brk (fun h3 => z ?_) (fun h3 => z ?_)
 rw [if_pos h3] at hm
 obtain ⟨hg4, hm⟩ := aj hm
 obtain ⟨hg5, hm⟩ := aj hm
 refine z ?_
 cases hm
 exact mst
 rw [if_neg (nt h3)] at hm
 cases hm
 exact mst
 rw [if_neg (nt h1)] at hm
 obtain ⟨hg6, hm⟩ := aj hm
 refine lg (α := Nat) aa (fun iw => (gdL (v.sc) (v.structs) (List.drop iw (v.lists)) = some r, ⟨54, [(25, .int .i64 iw), (24, .int .i64 ↑v.lists.length), (23, .lst false (List.map (aO eVa) v.lists)), (2, .bool false), (1, .ptr 1 0)]⟩, ⟨[(1, .cells (bM eVa v)), (0, aS)], 2, 0, [], []⟩, List.length (v.lists) - iw)) ⟨(0), hm⟩ ?_
 intro i7 hq7
 dsimp only at hq7
 refine z ?_
 refine bkd (fun h8 => z ?_) (fun h8 => z ?_)
 obtain ⟨x8, ex8, ed8⟩ := au h8
 rw [ed8, gdL] at hq7
 refine z ?_
 obtain ⟨hg9, hq7⟩ := aj hq7
 refine a6 ex8 rfl (z ?_)
 refine bkd (fun h10 => z ?_) (fun h10 => z ?_)
 rw [if_pos h10] at hq7
 cases hq7
 exact mst
 rw [if_neg h10] at hq7
 exact bk ⟨i7 + 1, hq7⟩
 rw [av h8, gdL] at hq7
 obtain ⟨hg11, hq7⟩ := aj hq7
 refine a8 rfl rfl ?_
 refine lg (α := Nat) aa (fun iw => (gdS (v.sc) (List.drop iw (v.structs)) = some r, ⟨54, [(37, .int .i64 iw), (36, .int .i64 ↑v.structs.length), (35, .lst false (List.map (aF eVa) v.structs)), (2, .bool false), (1, .ptr 1 0)]⟩, ⟨[(1, .cells (bM eVa v)), (0, aS)], 2, 0, [], []⟩, List.length (v.structs) - iw)) ⟨(0), hq7⟩ ?_
 intro i12 hq12
 dsimp only at hq12
 refine z ?_
 refine bkd (fun h13 => z ?_) (fun h13 => z ?_)
 obtain ⟨x13, ex13, ed13⟩ := au h13
 rw [ed13, gdS] at hq12
 refine z ?_
 refine a6 ex13 rfl (z ?_)
 obtain ⟨v14, e14, hq12⟩ := ae hq12
 refine ce (fieldsV_ok e14) (z ?_)
 refine bkm (fun h15 => z ?_) (fun h15 => z ?_)
 rw [if_neg (nt h15)] at hq12
 cases hq12
 exact mst
 rw [if_pos h15] at hq12
 obtain ⟨v16, e16, hq12⟩ := ae hq12
 refine ct (clsM_ok e16) (z ?_)
 refine bkm (fun h17 => z ?_) (fun h17 => z ?_)
 rw [if_neg (nt h17)] at hq12
 cases hq12
 exact mst
 rw [if_pos h17] at hq12
 exact bk ⟨i12 + 1, hq12⟩
 rw [av h13, gdS] at hq12
 replace hq12 := aG hq12
 obtain ⟨v18, e18, hq12⟩ := ae hq12
 refine ct (km e18) (z ?_)
 cases hq12
 exact mst
structure Wk where
 ju : Int
 deep : Int
 bad : Bool
def eWk (w : Wk) : List SVal := [.int .i64 w.ju, .int .i64 w.deep, .bool w.bad]
instance : Cl eWk := ⟨fun _ => rfl⟩
def vR (w : Wk) (level : Int) : Option Wk := (cX (w.ju + 1)).bind fun _ => some ⟨w.ju + 1, mx w.deep level, w.bad⟩
theorem enter_ok {w r : Wk} {level : Int} (hm : vR w level = some r) : jr Tryz.prog 133 (.cells (eWk w)) [.ptr 1 0, .int .i64 level] fun s o => s = .tup [] ∧ o = .cells (eWk r) := by
 refine df aa (fn := Tryz.f133) rfl rfl rfl ?_
 unfold vR at hm
 refine z ?_
 obtain ⟨hg1, hm⟩ := aj hm
 refine z ?_
 cases hm
 exact mso
def zW (rec : Wk → Vlu Va → Int → Option Wk) (level : Int) : List Va → Wk → Option Wk
 | [], w => some w
 | x :: r, w => (cX (level + 1)).bind fun _ => (rec w x.v (level + 1)).bind fun w => (rec w x.d (level + 1)).bind fun w => zW rec level r w
def zU : Nat → Wk → Vlu Va → Int → Option Wk
 | 0, _, _, _ => none
 | n + 1, w, v, level => (vR w level).bind fun w => if level > 16 then some ⟨w.ju, w.deep, true⟩ else (yE v).bind fun ok => if ok then
   (r4 v).bind fun l => (aN l).bind fun _ => zW (zU n) level l w else some ⟨w.ju, w.deep, true⟩
theorem visitV_ok : ∀ {n : Nat} {w r : Wk} {v : Vlu Va} {level : Int} (hm : zU n w v level = some r), jr Tryz.prog 96 (.cells (eWk w)) [.ptr 1 0, .agg (bM eVa v), .int .i64 level] fun s o => s = .tup [] ∧ o = .cells (eWk r) := by
 intro n
 induction n with
 | zero => intro w r v level hm; cases hm
 | succ n ih =>
  intro w r v level hm
  refine df aa (fn := Tryz.f96) rfl rfl (by simp only [nb, nbL, cz, Bool.and_self]; rfl) ?_
  unfold zU at hm
  refine z ?_
  obtain ⟨v1, e1, hm⟩ := ae hm
  refine cG 1 (enter_ok e1) rfl rfl rfl rfl (z ?_)
  refine bkd (fun h2 => z ?_) (fun h2 => z ?_)
  ·rw [if_pos h2] at hm
   cases hm
   exact mso
  ·rw [if_neg h2] at hm
   obtain ⟨v3, e3, hm⟩ := ae hm
   refine ct (goodV_ok e3) (z ?_)
   refine bkm (fun h4 => z ?_) (fun h4 => z ?_)
   ·rw [if_neg (nt h4)] at hm
    cases hm
    exact mso
   ·rw [if_pos h4] at hm
    obtain ⟨v5, e5, hm⟩ := ae hm
    refine ce (childV_ok e5) (z ?_)
    obtain ⟨hg6, hm⟩ := aj hm
    refine lg (α := Nat × Wk) aa (fun (iw, s1) => (zW (zU n) (level) (List.drop iw (v5)) s1 = some r, ⟨43, [(26, .int .i64 iw), (25, .int .i64 ↑v5.length), (24, .lst false (List.map eVa v5)), (0, .ptr 1 0), (2, .int .i64 level)]⟩, ⟨[(2, .cells (bM eVa v)), (0, aS), (1, .cells (eWk s1))], 3, 0, [], []⟩, List.length (v5) - iw)) ⟨(0, _), hm⟩ ?_
    rintro ⟨i7, s1_7⟩ hq7
    dsimp only at hq7
    refine z ?_
    refine bkd (fun h8 => z ?_) (fun h8 => z ?_)
    ·obtain ⟨x8, ex8, ed8⟩ := au h8
     rw [ed8, zW] at hq7
     refine z ?_
     obtain ⟨hg9, hq7⟩ := aj hq7
     refine bo (bX _) ex8 rfl (z ?_)
     obtain ⟨v10, e10, hq7⟩ := ae hq7
     refine cG 1 (ih e10) (by simp only [bV, bz, bx]; rfl) rfl rfl rfl (z ?_)
     obtain ⟨v11, e11, hq7⟩ := ae hq7
     refine cG 1 (ih e11) (by simp only [bV, bz, bx]; rfl) rfl rfl rfl (z ?_)
     exact bk ⟨(i7 + 1, _), hq7⟩
    ·rw [av h8, zW] at hq7
     cases hq7
     exact mso
def wP (v : Vlu Va) : Option Wk := zU 18 ⟨0, 0, false⟩ v 1
theorem walkV_ok {v : Vlu Va} {r : Wk} (hm : wP v = some r) : aY Tryz.prog 72 [.agg (bM eVa v)] fun s => s = .bA (eWk r) 0 := by
 refine ht aa Tryz.f72 ?_
 unfold wP at hm
 refine z ?_
 replace hm := aG hm
 obtain ⟨v1, e1, hm⟩ := ae hm
 refine cG 2 (visitV_ok e1) (by simp only [bV, bz, bx]; rfl) rfl rfl rfl (z ?_)
 cases hm
 refine aR (z ?_)
 exact mt
def jz (v : Vlu Va) : Option Bool := (wP v).bind fun w => some (!w.bad)
theorem ku {v : Vlu Va} {r : Bool} (hm : jz v = some r) : aY Tryz.prog 51 [.agg (bM eVa v)] fun s => s = .bool r := by
 refine ht aa Tryz.f51 ?_
 unfold jz at hm
 refine z ?_
 obtain ⟨v1, e1, hm⟩ := ae hm
 refine ct (walkV_ok e1) (z ?_)
 cases hm
 exact mst
def nB (x : Va) : Option Bool := (jz x.v).bind fun a => if a then jz x.d else some false
theorem tJ {x : Va} {r : Bool} (hm : nB x = some r) : aY Tryz.prog 32 [.agg (uVa x)] fun s => s = .bool r := by
 refine ht aa Tryz.f32 ?_
 unfold nB at hm
 refine z ?_
 obtain ⟨v1, e1, hm⟩ := ae hm
 refine ct (ku e1) (z ?_)
 refine brk (fun h2 => z ?_) (fun h2 => z ?_)
 rw [if_pos h2] at hm
 replace hm := aG hm
 obtain ⟨v3, e3, hm⟩ := ae hm
 refine ct (ku e3) (z ?_)
 cases hm
 exact mst
 rw [if_neg (nt h2)] at hm
 cases hm
 exact mst
def xx (a b : bW) : Option Bool := if a.null == b.null then if a.fls == b.fls then if a.tru == b.tru then (gR a.ints b.ints).bind fun c => if c then (gR a.bK b.bK).bind fun c => if c then tL a.strs b.strs else some false else some false else some false else some false else some false
theorem samSc_ok {a b : bW} {r : Bool} (hm : xx a b = some r) : Has Tryz.prog 109 [.agg (bS a), .agg (bS b)] fun s => s = .bool r := by
 refine hs aa Tryz.f109 ?_
 unfold xx at hm
 refine z ?_
 refine brk (fun h1 => z ?_) (fun h1 => z ?_)
 rw [if_pos h1] at hm
 refine brk (fun h2 => z ?_) (fun h2 => z ?_)
 rw [if_pos h2] at hm
 refine brk (fun h3 => z ?_) (fun h3 => z ?_)
 rw [if_pos h3] at hm
 obtain ⟨v4, e4, hm⟩ := ae hm
 refine ce (iT e4) (z ?_)
 refine brk (fun h5 => z ?_) (fun h5 => z ?_)
 rw [if_pos h5] at hm
 obtain ⟨v6, e6, hm⟩ := ae hm
 refine ce (iT e6) (z ?_)
 refine brk (fun h7 => z ?_) (fun h7 => z ?_)
 rw [if_pos h7] at hm
 replace hm := aG hm
 obtain ⟨v8, e8, hm⟩ := ae hm
 refine ce (vr e8) (z ?_)
 cases hm
 exact fc
 rw [if_neg (nt h7)] at hm
 cases hm
 exact fc
 rw [if_neg (nt h5)] at hm
 cases hm
 exact fc
 rw [if_neg (nt h3)] at hm
 cases hm
 exact fc
 rw [if_neg (nt h2)] at hm
 cases hm
 exact fc
 rw [if_neg (nt h1)] at hm
 cases hm
 exact fc
theorem eqVa_ok {fn : FuncId} {g : Va → Va → Option Bool} (hg : ∀ {x y r}, g x y = some r → Has Tryz.prog fn [.agg (uVa x), .agg (uVa y)] fun s => s = .bool r) {a b : List Va} {r : Bool} (hm : jm g a b = some r) : Has Tryz.prog 110 [.lst false (a.map eVa), .lst false (b.map eVa), .func (.func fn) [] []] fun s => s = .bool r := by
 refine hs aa Tryz.f110 ?_
 unfold jm at hm
 refine z ?_
 refine bkn (fun h1 => z ?_) (fun h1 => z ?_)
 rw [if_neg h1] at hm
 cases hm
 exact fc
 rw [if_pos h1] at hm
 obtain ⟨hg2, hm⟩ := aj hm
 refine lg (α := Nat) aa (fun iw => (iA (g) (b) (List.drop iw (a)) (iw : Int) = some r, ⟨32, [(17, .int .i64 iw), (16, .int .i64 ↑a.length), (15, .lst false (List.map eVa a)), (6, .bool false), (1, .lst false (List.map eVa b)), (2, .func (.func fn) [] [])]⟩, ⟨[], 0, 0, [], []⟩, List.length (a) - iw)) ⟨(0), hm⟩ ?_
 intro i3 hq3
 dsimp only at hq3
 refine z ?_
 refine bkd (fun h4 => z ?_) (fun h4 => z ?_)
 obtain ⟨x4, ex4, ed4⟩ := au h4
 rw [ed4, iA] at hq3
 refine z ?_
 refine bo (bX _) ex4 rfl (z ?_)
 obtain ⟨j5, x5, en5, ex5, hq3⟩ := aB hq3
 refine bU (bX _) en5 ex5 rfl (z ?_)
 obtain ⟨v6, e6, hq3⟩ := ae hq3
 refine ce (hg e6) (z ?_)
 refine bkm (fun h7 => z ?_) (fun h7 => z ?_)
 rw [if_neg (nt h7)] at hq3
 cases hq3
 exact fc
 rw [if_pos h7] at hq3
 exact bk ⟨i3 + 1, hq3⟩
 rw [av h4, iA] at hq3
 cases hq3
 exact fc
theorem eqFld_ok {fn : FuncId} {g : Fld Va → Fld Va → Option Bool} (hg : ∀ {x y r}, g x y = some r → Has Tryz.prog fn [.agg (jw x), .agg (jw y)] fun s => s = .bool r) {a b : List (Fld Va)} {r : Bool} (hm : jm g a b = some r) : Has Tryz.prog 160 [.lst false (a.map (cC eVa)), .lst false (b.map (cC eVa)), .func (.func fn) [] []] fun s => s = .bool r := by
 refine hs aa Tryz.f160 ?_
 unfold jm at hm
 refine z ?_
 refine bkn (fun h1 => z ?_) (fun h1 => z ?_)
 rw [if_neg h1] at hm
 cases hm
 exact fc
 rw [if_pos h1] at hm
 obtain ⟨hg2, hm⟩ := aj hm
 refine lg (α := Nat) aa (fun iw => (iA (g) (b) (List.drop iw (a)) (iw : Int) = some r, ⟨32, [(17, .int .i64 iw), (16, .int .i64 ↑a.length), (15, .lst false (List.map (cC eVa) a)), (6, .bool false), (1, .lst false (List.map (cC eVa) b)), (2, .func (.func fn) [] [])]⟩, ⟨[], 0, 0, [], []⟩, List.length (a) - iw)) ⟨(0), hm⟩ ?_
 intro i3 hq3
 dsimp only at hq3
 refine z ?_
 refine bkd (fun h4 => z ?_) (fun h4 => z ?_)
 obtain ⟨x4, ex4, ed4⟩ := au h4
 rw [ed4, iA] at hq3
 refine z ?_
 refine bo (cq _) ex4 rfl (z ?_)
 obtain ⟨j5, x5, en5, ex5, hq3⟩ := aB hq3
 refine bU (cq _) en5 ex5 rfl (z ?_)
 obtain ⟨v6, e6, hq3⟩ := ae hq3
 refine ce (hg e6) (z ?_)
 refine bkm (fun h7 => z ?_) (fun h7 => z ?_)
 rw [if_neg (nt h7)] at hq3
 cases hq3
 exact fc
 rw [if_pos h7] at hq3
 exact bk ⟨i3 + 1, hq3⟩
 rw [av h4, iA] at hq3
 cases hq3
 exact fc
theorem eqCls_ok {fn : FuncId} {g : Cls Va → Cls Va → Option Bool} (hg : ∀ {x y r}, g x y = some r → Has Tryz.prog fn [.agg (ep x), .agg (ep y)] fun s => s = .bool r) {a b : List (Cls Va)} {r : Bool} (hm : jm g a b = some r) : Has Tryz.prog 162 [.lst false (a.map (cQ eVa)), .lst false (b.map (cQ eVa)), .func (.func fn) [] []] fun s => s = .bool r := by
 refine hs aa Tryz.f162 ?_
 unfold jm at hm
 refine z ?_
 refine bkn (fun h1 => z ?_) (fun h1 => z ?_)
 rw [if_neg h1] at hm
 cases hm
 exact fc
 rw [if_pos h1] at hm
 obtain ⟨hg2, hm⟩ := aj hm
 refine lg (α := Nat) aa (fun iw => (iA (g) (b) (List.drop iw (a)) (iw : Int) = some r, ⟨32, [(17, .int .i64 iw), (16, .int .i64 ↑a.length), (15, .lst false (List.map (cQ eVa) a)), (6, .bool false), (1, .lst false (List.map (cQ eVa) b)), (2, .func (.func fn) [] [])]⟩, ⟨[], 0, 0, [], []⟩, List.length (a) - iw)) ⟨(0), hm⟩ ?_
 intro i3 hq3
 dsimp only at hq3
 refine z ?_
 refine bkd (fun h4 => z ?_) (fun h4 => z ?_)
 obtain ⟨x4, ex4, ed4⟩ := au h4
 rw [ed4, iA] at hq3
 refine z ?_
 refine bo (bY _) ex4 rfl (z ?_)
 obtain ⟨j5, x5, en5, ex5, hq3⟩ := aB hq3
 refine bU (bY _) en5 ex5 rfl (z ?_)
 obtain ⟨v6, e6, hq3⟩ := ae hq3
 refine ce (hg e6) (z ?_)
 refine bkm (fun h7 => z ?_) (fun h7 => z ?_)
 rw [if_neg (nt h7)] at hq3
 cases hq3
 exact fc
 rw [if_pos h7] at hq3
 exact bk ⟨i3 + 1, hq3⟩
 rw [av h4, iA] at hq3
 cases hq3
 exact fc
abbrev SamV (rec : Vlu Va → Vlu Va → Option Bool) : Prop := ∀ {a b r}, rec a b = some r → Has Tryz.prog 75 [.agg (bM eVa a), .agg (bM eVa b)] fun s => s = .bool r
def oD (rec : Vlu Va → Vlu Va → Option Bool) (x y : Va) : Option Bool := (rec x.v y.v).bind fun c => if c then rec x.d y.d else some false
theorem mr {rec : Vlu Va → Vlu Va → Option Bool} (h : SamV rec) {x y : Va} {r : Bool} (hm : oD rec x y = some r) : Has Tryz.prog 53 [.agg (uVa x), .agg (uVa y)] fun s => s = .bool r := by
 refine hs aa Tryz.f53 ?_
 unfold oD at hm
 refine z ?_
 obtain ⟨v1, e1, hm⟩ := ae hm
 refine ce (h e1) (z ?_)
 refine brk (fun h2 => z ?_) (fun h2 => z ?_)
 rw [if_pos h2] at hm
 replace hm := aG hm
 obtain ⟨v3, e3, hm⟩ := ae hm
 refine ce (h e3) (z ?_)
 cases hm
 exact fc
 rw [if_neg (nt h2)] at hm
 cases hm
 exact fc
def samF1 (rec : Vlu Va → Vlu Va → Option Bool) (x y : Fld Va) : Option Bool := if x.label = y.label then if x.fe = y.fe then oD rec x.val y.val else some false else some false
theorem samF1_ok {rec : Vlu Va → Vlu Va → Option Bool} (h : SamV rec) {x y : Fld Va} {r : Bool} (hm : samF1 rec x y = some r) : Has Tryz.prog 161 [.agg (jw x), .agg (jw y)] fun s => s = .bool r := by
 refine hs aa Tryz.f161 ?_
 unfold samF1 at hm
 refine z ?_
 refine bkd (fun h1 => z ?_) (fun h1 => z ?_)
 rw [if_pos h1] at hm
 refine bkd (fun h2 => z ?_) (fun h2 => z ?_)
 rw [if_pos h2] at hm
 replace hm := aG hm
 obtain ⟨v3, e3, hm⟩ := ae hm
 refine ce (mr h e3) (z ?_)
 cases hm
 exact fc
 rw [if_neg h2] at hm
 cases hm
 exact fc
 rw [if_neg h1] at hm
 cases hm
 exact fc
def samC1 (rec : Vlu Va → Vlu Va → Option Bool) (x y : Cls Va) : Option Bool := (tL x.set y.set).bind fun c => if c then oD rec x.val y.val else some false
theorem samC1_ok {rec : Vlu Va → Vlu Va → Option Bool} (h : SamV rec) {x y : Cls Va} {r : Bool} (hm : samC1 rec x y = some r) : Has Tryz.prog 163 [.agg (ep x), .agg (ep y)] fun s => s = .bool r := by
 refine hs aa Tryz.f163 ?_
 unfold samC1 at hm
 refine z ?_
 obtain ⟨v1, e1, hm⟩ := ae hm
 refine ce (vr e1) (z ?_)
 refine brk (fun h2 => z ?_) (fun h2 => z ?_)
 rw [if_pos h2] at hm
 replace hm := aG hm
 obtain ⟨v3, e3, hm⟩ := ae hm
 refine ce (mr h e3) (z ?_)
 cases hm
 exact fc
 rw [if_neg (nt h2)] at hm
 cases hm
 exact fc
def xw (rec : Vlu Va → Vlu Va → Option Bool) (x y : aI Va) : Option Bool := (jm (samF1 rec) x.fields y.fields).bind fun c => if c then jm (samC1 rec) x.aA y.aA else some false
theorem samSt_ok {rec : Vlu Va → Vlu Va → Option Bool} (h : SamV rec) {x y : aI Va} {r : Bool} (hm : xw rec x y = some r) : Has Tryz.prog 112 [.agg (aF eVa x), .agg (aF eVa y)] fun s => s = .bool r := by
 refine hs aa Tryz.f112 ?_
 unfold xw at hm
 refine z ?_
 obtain ⟨v1, e1, hm⟩ := ae hm
 refine ce (eqFld_ok (samF1_ok h) e1) (z ?_)
 refine brk (fun h2 => z ?_) (fun h2 => z ?_)
 rw [if_pos h2] at hm
 replace hm := aG hm
 obtain ⟨v3, e3, hm⟩ := ae hm
 refine ce (eqCls_ok (samC1_ok h) e3) (z ?_)
 cases hm
 exact fc
 rw [if_neg (nt h2)] at hm
 cases hm
 exact fc
def samS (rec : Vlu Va → Vlu Va → Option Bool) (b : List (aI Va)) : List (aI Va) → Int → Option Bool
 | [], _ => some true
 | x :: r, i => (atI b i).bind fun y => (xw rec x y).bind fun c => if c then samS rec b r (i + 1) else some false
def samL (rec : Vlu Va → Vlu Va → Option Bool) (sa sb : List (aI Va)) (b : List (aT Va)) : List (aT Va) → Int → Option Bool
 | [], _ => (aN sa).bind fun _ => samS rec sb sa 0
 | x :: r, i => (atI b i).bind fun y => (aN x.items).bind fun _ => (aN y.items).bind fun _ => if (x.items.length : Int) = y.items.length then
   (eH x).bind fun p => (eH y).bind fun q => (jm (oD rec) p q).bind fun c => if c then samL rec sa sb b r (i + 1) else some false
  else some false
def vt : Nat → Vlu Va → Vlu Va → Option Bool
 | 0, _, _ => none
 | n + 1, a, b => if a.any == b.any then (xx a.sc b.sc).bind fun c => if c then (aN a.lists).bind fun _ => (aN b.lists).bind fun _ => if (a.lists.length : Int) = b.lists.length then
   (aN a.structs).bind fun _ => (aN b.structs).bind fun _ => if (a.structs.length : Int) = b.structs.length then (aN a.lists).bind fun _ => samL (vt n) a.structs b.structs b.lists a.lists 0 else some false else some false else some false else some false
theorem samV_ok : ∀ {n : Nat}, SamV (vt n) := by
 intro n
 induction n with
 | zero => intro a b r hm; cases hm
 | succ n ih =>
  intro a b r hm
  refine hs aa Tryz.f75 ?_
  unfold vt at hm
  refine z ?_
  refine bkm (fun h1 => z ?_) (fun h1 => z ?_)
  ·rw [if_neg (nt h1)] at hm
   cases hm
   exact fc
  ·rw [if_pos h1] at hm
   obtain ⟨v2, e2, hm⟩ := ae hm
   refine ce (samSc_ok e2) (z ?_)
   refine bkm (fun h3 => z ?_) (fun h3 => z ?_)
   ·rw [if_neg (nt h3)] at hm
    cases hm
    exact fc
   ·rw [if_pos h3] at hm
    obtain ⟨hg4, hm⟩ := aj hm
    obtain ⟨hg5, hm⟩ := aj hm
    refine bkn (fun h6 => z ?_) (fun h6 => z ?_)
    ·rw [if_neg h6] at hm
     cases hm
     exact fc
    ·rw [if_pos h6] at hm
     obtain ⟨hg7, hm⟩ := aj hm
     obtain ⟨hg8, hm⟩ := aj hm
     refine bkn (fun h9 => z ?_) (fun h9 => z ?_)
     ·rw [if_neg h9] at hm
      cases hm
      exact fc
     ·rw [if_pos h9] at hm
      obtain ⟨hg10, hm⟩ := aj hm
      refine lg (α := Nat) aa (fun iw => (samL (vt n) (a.structs) (b.structs) (b.lists) (List.drop iw (a.lists)) (iw : Int) = some r, ⟨91, [(43, .int .i64 iw), (42, .int .i64 ↑a.lists.length), (4, .bool false), (3, .ptr 1 0), (2, .ptr 0 0)]⟩, ⟨[(1, .cells (bM eVa b)), (0, .cells (bM eVa a))], 2, 0, [], []⟩, List.length (a.lists) - iw)) ⟨(0), hm⟩ ?_
      intro i11 hq11
      dsimp only at hq11
      refine z ?_
      refine bkd (fun h12 => z ?_) (fun h12 => z ?_)
      ·obtain ⟨x12, ex12, ed12⟩ := au h12
       rw [ed12, samL] at hq11
       refine z ?_
       refine dg aa [0,1,0,7,15,0,32,0,224,480,0,0,3103,8191] [⟨13,0,0,[3]⟩,⟨12,0,0,[2]⟩] (z ?_)
       refine a6 ex12 rfl (z ?_)
       obtain ⟨j14, x14, en14, ex14, hq11⟩ := aB hq11
       refine bf en14 ex14 rfl (z ?_)
       refine dg aa [0,1,3,0,8,24,63,127,255,511,255,2047,4095,8191,16383] [] (z ?_)
       obtain ⟨hg15, hq11⟩ := aj hq11
       obtain ⟨hg16, hq11⟩ := aj hq11
       refine bkn (fun h17 => z ?_) (fun h17 => z ?_)
       ·rw [if_neg h17] at hq11
        cases hq11
        exact fc
       ·rw [if_pos h17] at hq11
        obtain ⟨v18, e18, hq11⟩ := ae hq11
        refine ce (fG e18) (z ?_)
        obtain ⟨v19, e19, hq11⟩ := ae hq11
        refine ce (fG e19) (z ?_)
        obtain ⟨v20, e20, hq11⟩ := ae hq11
        refine ce (eqVa_ok (mr ih) e20) (z ?_)
        refine bkm (fun h21 => z ?_) (fun h21 => z ?_)
        ·rw [if_neg (nt h21)] at hq11
         cases hq11
         exact fc
        ·rw [if_pos h21] at hq11
         exact bk ⟨i11 + 1, hq11⟩
      ·rw [av h12, samL] at hq11
       obtain ⟨hg22, hq11⟩ := aj hq11
       refine a8 rfl rfl ?_
       refine lg (α := Nat) aa (fun iw => (samS (vt n) (b.structs) (List.drop iw (a.structs)) (iw : Int) = some r, ⟨91, [(75, .int .i64 iw), (74, .int .i64 ↑a.structs.length), (4, .bool false), (3, .ptr 1 0), (2, .ptr 0 0)]⟩, ⟨[(1, .cells (bM eVa b)), (0, .cells (bM eVa a))], 2, 0, [], []⟩, List.length (a.structs) - iw)) ⟨(0), hq11⟩ ?_
       intro i23 hq23
       dsimp only at hq23
       refine z ?_
       refine bkd (fun h24 => z ?_) (fun h24 => z ?_)
       ·obtain ⟨x24, ex24, ed24⟩ := au h24
        rw [ed24, samS] at hq23
        refine z ?_
        refine dg aa [0,1,0,7,15,0,32,0,224,480,1023,2047] [] (z ?_)
        refine a6 ex24 rfl (z ?_)
        obtain ⟨j25, x25, en25, ex25, hq23⟩ := aB hq23
        refine bf en25 ex25 rfl (z ?_)
        obtain ⟨v26, e26, hq23⟩ := ae hq23
        refine ce (samSt_ok ih e26) (z ?_)
        refine bkm (fun h27 => z ?_) (fun h27 => z ?_)
        ·rw [if_neg (nt h27)] at hq23
         cases hq23
         exact fc
        ·rw [if_pos h27] at hq23
         exact bk ⟨i23 + 1, hq23⟩
       ·rw [av h24, samS] at hq23
        cases hq23
        exact fc
def yK : Nat := 64
def oC (x y : Va) : Option Bool := oD (vt yK) x y
theorem qA {x y : Va} {r : Bool} (hm : oC x y = some r) : Has Tryz.prog 35 [.agg (uVa x), .agg (uVa y)] fun s => s = .bool r := by
 refine hs aa Tryz.f35 ?_
 unfold oC at hm
 refine z ?_
 replace hm := aG hm
 obtain ⟨v1, e1, hm⟩ := ae hm
 refine ce (mr samV_ok e1) (z ?_)
 cases hm
 exact fc
end Go.Proofs.YtmjddpeookapaaaGreatDoor
