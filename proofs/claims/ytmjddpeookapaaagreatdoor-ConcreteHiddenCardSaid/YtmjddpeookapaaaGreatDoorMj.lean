/- For ConcreteHidden: functions of the program, walked beside Lean functions that say what they compute. -/
import Derived.Test.YtmjddpeookapaaaGreatDoorEn
import Derived.KernelRfl
import Derived.Test.YtmjddpeookapaaaGreatDoorMi
import Derived.Test.YtmjddpeookapaaaGreatDoorSvG
set_option linter.unusedVariables false
set_option linter.unusedSimpArgs false
set_option linter.unusedSectionVars false
namespace Go.Proofs.YtmjddpeookapaaaGreatDoor
open Sv
set_option maxRecDepth 100000
set_option maxHeartbeats 2000000
section
variable {α : Type}
def ir (g : α → Option Bool) : List α → Int → Option Int
 | [], _ => some (-1)
 | x :: r, i => (g x).bind fun c => if c then some i else ir g r (i + 1)
def tg (g : α → Option Bool) (l : List α) : Option Int := (aN l).bind fun _ => ir g l 0
def conF (g : α → Option Bool) (l : List α) : Option Bool := (tg g l).bind fun i => some (decide (i ≥ 0))
def tj (is : α → α → Option Bool) (b : List α) : List α → Option Bool
 | [] => some true
 | x :: r => (conF (is x) b).bind fun c => if c then tj is b r else some false
def y7 (is : α → α → Option Bool) (a b : List α) : Option Bool := (aN a).bind fun _ => tj is b a
end
theorem ixL_ok {fn : FuncId} {cap : List SVal} (hc : aw cap = true) (hw : cg cap = cap) {g : aT Va → Option Bool} (hg : ∀ {x r}, g x = some r → aY Tryz.prog fn (.agg (aO eVa x) :: cap) fun s => s = .bool r) {l : List (aT Va)} {r : Int} (hm : tg g l = some r) : aY Tryz.prog 198 [.lst false (l.map (aO eVa)), .func (.func fn) [] cap] fun s => s = .int .i64 r := by
 refine ht aa Tryz.f198 ?_
 unfold tg at hm
 refine z ?_
 obtain ⟨hg1, hm⟩ := aj hm
 refine lg (α := Nat) aa (fun iw => (ir (g) (List.drop iw (l)) (iw : Int) = some r, ⟨19, [(8, .int .i64 iw), (7, .int .i64 ↑l.length), (4, .int .i64 0), (0, .lst false (List.map (aO eVa) l)), (1, .func (.func fn) [] cap)]⟩, ⟨[(0, aS)], 1, 0, [], []⟩, List.length (l) - iw)) ⟨(0), hm⟩ ?_
 intro i2 hq2
 dsimp only at hq2
 refine z ?_
 refine bkd (fun h3 => z ?_) (fun h3 => z ?_)
 obtain ⟨x3, ex3, ed3⟩ := au h3
 rw [ed3, ir] at hq2
 refine z ?_
 refine a6 ex3 rfl (z ?_)
 obtain ⟨v4, e4, hq2⟩ := ae hq2
 refine gi (hg e4) (by (simp only [cg, iG, hw]; try rfl)) rfl (z ?_)
 refine brk (fun h5 => z ?_) (fun h5 => z ?_)
 rw [if_pos h5] at hq2
 cases hq2
 exact mst
 rw [if_neg (nt h5)] at hq2
 exact bk ⟨i2 + 1, hq2⟩
 rw [av h3, ir] at hq2
 cases hq2
 exact mst
theorem ctL_ok {fn : FuncId} {cap : List SVal} (hc : aw cap = true) (hw : cg cap = cap) {g : aT Va → Option Bool} (hg : ∀ {x r}, g x = some r → aY Tryz.prog fn (.agg (aO eVa x) :: cap) fun s => s = .bool r) {l : List (aT Va)} {r : Bool} (hm : conF g l = some r) : aY Tryz.prog 154 [.lst false (l.map (aO eVa)), .func (.func fn) [] cap] fun s => s = .bool r := by
 refine ht aa Tryz.f154 ?_
 unfold conF at hm
 refine z ?_
 obtain ⟨v1, e1, hm⟩ := ae hm
 refine ct (ixL_ok hc hw hg e1) (z ?_)
 cases hm
 exact mst
theorem coL1_ok {fn : FuncId} {is : aT Va → aT Va → Option Bool} (hg : ∀ {x y r}, is x y = some r → aY Tryz.prog fn [.agg (aO eVa x), .agg (aO eVa y)] fun s => s = .bool r) {x y : aT Va} {r : Bool} (hm : is x y = some r) : aY Tryz.prog 155 [.agg (aO eVa y), .bA [.func (.func fn) [] []] 0, .bA (aO eVa x) 0] fun s => s = .bool r := by
 refine ht aa Tryz.f155 (z ?_)
 replace hm := aG hm
 obtain ⟨v1, e1, hm⟩ := ae hm
 refine ct (hg e1) (z ?_)
 cases hm
 exact mst
theorem coL_ok {fn : FuncId} {is : aT Va → aT Va → Option Bool} (hg : ∀ {x y r}, is x y = some r → aY Tryz.prog fn [.agg (aO eVa x), .agg (aO eVa y)] fun s => s = .bool r) {a b : List (aT Va)} {r : Bool} (hm : y7 is a b = some r) : aY Tryz.prog 107 [.lst false (a.map (aO eVa)), .lst false (b.map (aO eVa)), .func (.func fn) [] []] fun s => s = .bool r := by
 refine ht aa Tryz.f107 ?_
 unfold y7 at hm
 refine z ?_
 obtain ⟨hg1, hm⟩ := aj hm
 refine oO 1 rfl rfl ?_
 refine lg (α := Nat) aa (fun iw => (tj (is) (b) (List.drop iw (a)) = some r, ⟨20, [(11, .int .i64 iw), (10, .int .i64 ↑a.length), (9, .lst false (List.map (aO eVa) a)), (6, .bool false), (5, .ptr 1 0), (1, .lst false (List.map (aO eVa) b))]⟩, ⟨[(1, .still [.func (.func fn) [] []]), (0, aS)], 2, 0, [], []⟩, List.length (a) - iw)) ⟨(0), hm⟩ ?_
 intro i2 hq2
 dsimp only at hq2
 refine z ?_
 refine bkd (fun h3 => z ?_) (fun h3 => z ?_)
 obtain ⟨x3, ex3, ed3⟩ := au h3
 rw [ed3, tj] at hq2
 refine z ?_
 refine a6 ex3 rfl (z ?_)
 obtain ⟨v4, e4, hq2⟩ := ae hq2
 refine bq (ctL_ok (by simp only [aw, closed, aJ, cw, bB, bR, clR, cl, cY, Bool.and_self]) rfl (coL1_ok hg) e4) (z ?_)
 refine bkm (fun h5 => z ?_) (fun h5 => z ?_)
 rw [if_neg (nt h5)] at hq2
 cases hq2
 exact mst
 rw [if_pos h5] at hq2
 exact bk ⟨i2 + 1, hq2⟩
 rw [av h3, tj] at hq2
 cases hq2
 exact mst
theorem ixS_ok {fn : FuncId} {cap : List SVal} (hc : aw cap = true) (hw : cg cap = cap) {g : aI Va → Option Bool} (hg : ∀ {x r}, g x = some r → aY Tryz.prog fn (.agg (aF eVa x) :: cap) fun s => s = .bool r) {l : List (aI Va)} {r : Int} (hm : tg g l = some r) : aY Tryz.prog 199 [.lst false (l.map (aF eVa)), .func (.func fn) [] cap] fun s => s = .int .i64 r := by
 refine ht aa Tryz.f199 ?_
 unfold tg at hm
 refine z ?_
 obtain ⟨hg1, hm⟩ := aj hm
 refine lg (α := Nat) aa (fun iw => (ir (g) (List.drop iw (l)) (iw : Int) = some r, ⟨19, [(8, .int .i64 iw), (7, .int .i64 ↑l.length), (4, .int .i64 0), (0, .lst false (List.map (aF eVa) l)), (1, .func (.func fn) [] cap)]⟩, ⟨[(0, aS)], 1, 0, [], []⟩, List.length (l) - iw)) ⟨(0), hm⟩ ?_
 intro i2 hq2
 dsimp only at hq2
 refine z ?_
 refine bkd (fun h3 => z ?_) (fun h3 => z ?_)
 obtain ⟨x3, ex3, ed3⟩ := au h3
 rw [ed3, ir] at hq2
 refine z ?_
 refine a6 ex3 rfl (z ?_)
 obtain ⟨v4, e4, hq2⟩ := ae hq2
 refine gi (hg e4) (by (simp only [cg, iG, hw]; try rfl)) rfl (z ?_)
 refine brk (fun h5 => z ?_) (fun h5 => z ?_)
 rw [if_pos h5] at hq2
 cases hq2
 exact mst
 rw [if_neg (nt h5)] at hq2
 exact bk ⟨i2 + 1, hq2⟩
 rw [av h3, ir] at hq2
 cases hq2
 exact mst
theorem ctS_ok {fn : FuncId} {cap : List SVal} (hc : aw cap = true) (hw : cg cap = cap) {g : aI Va → Option Bool} (hg : ∀ {x r}, g x = some r → aY Tryz.prog fn (.agg (aF eVa x) :: cap) fun s => s = .bool r) {l : List (aI Va)} {r : Bool} (hm : conF g l = some r) : aY Tryz.prog 156 [.lst false (l.map (aF eVa)), .func (.func fn) [] cap] fun s => s = .bool r := by
 refine ht aa Tryz.f156 ?_
 unfold conF at hm
 refine z ?_
 obtain ⟨v1, e1, hm⟩ := ae hm
 refine ct (ixS_ok hc hw hg e1) (z ?_)
 cases hm
 exact mst
theorem coS1_ok {fn : FuncId} {is : aI Va → aI Va → Option Bool} (hg : ∀ {x y r}, is x y = some r → aY Tryz.prog fn [.agg (aF eVa x), .agg (aF eVa y)] fun s => s = .bool r) {x y : aI Va} {r : Bool} (hm : is x y = some r) : aY Tryz.prog 157 [.agg (aF eVa y), .bA [.func (.func fn) [] []] 0, .bA (aF eVa x) 0] fun s => s = .bool r := by
 refine ht aa Tryz.f157 (z ?_)
 replace hm := aG hm
 obtain ⟨v1, e1, hm⟩ := ae hm
 refine ct (hg e1) (z ?_)
 cases hm
 exact mst
theorem coS_ok {fn : FuncId} {is : aI Va → aI Va → Option Bool} (hg : ∀ {x y r}, is x y = some r → aY Tryz.prog fn [.agg (aF eVa x), .agg (aF eVa y)] fun s => s = .bool r) {a b : List (aI Va)} {r : Bool} (hm : y7 is a b = some r) : aY Tryz.prog 108 [.lst false (a.map (aF eVa)), .lst false (b.map (aF eVa)), .func (.func fn) [] []] fun s => s = .bool r := by
 refine ht aa Tryz.f108 ?_
 unfold y7 at hm
 refine z ?_
 obtain ⟨hg1, hm⟩ := aj hm
 refine oO 1 rfl rfl ?_
 refine lg (α := Nat) aa (fun iw => (tj (is) (b) (List.drop iw (a)) = some r, ⟨20, [(11, .int .i64 iw), (10, .int .i64 ↑a.length), (9, .lst false (List.map (aF eVa) a)), (6, .bool false), (5, .ptr 1 0), (1, .lst false (List.map (aF eVa) b))]⟩, ⟨[(1, .still [.func (.func fn) [] []]), (0, aS)], 2, 0, [], []⟩, List.length (a) - iw)) ⟨(0), hm⟩ ?_
 intro i2 hq2
 dsimp only at hq2
 refine z ?_
 refine bkd (fun h3 => z ?_) (fun h3 => z ?_)
 obtain ⟨x3, ex3, ed3⟩ := au h3
 rw [ed3, tj] at hq2
 refine z ?_
 refine a6 ex3 rfl (z ?_)
 obtain ⟨v4, e4, hq2⟩ := ae hq2
 refine bq (ctS_ok (by simp only [aw, closed, aJ, cw, bB, bR, clR, cl, cY, Bool.and_self]) rfl (coS1_ok hg) e4) (z ?_)
 refine bkm (fun h5 => z ?_) (fun h5 => z ?_)
 rw [if_neg (nt h5)] at hq2
 cases hq2
 exact mst
 rw [if_pos h5] at hq2
 exact bk ⟨i2 + 1, hq2⟩
 rw [av h3, tj] at hq2
 cases hq2
 exact mst
theorem ixC_ok {fn : FuncId} {cap : List SVal} (hc : aw cap = true) (hw : cg cap = cap) {g : Cls Va → Option Bool} (hg : ∀ {x r}, g x = some r → Has Tryz.prog fn (.agg (ep x) :: cap) fun s => s = .bool r) {l : List (Cls Va)} {r : Int} (hm : tg g l = some r) : Has Tryz.prog 136 [.lst false (l.map (cQ eVa)), .func (.func fn) [] cap] fun s => s = .int .i64 r := by
 refine hs aa Tryz.f136 ?_
 unfold tg at hm
 refine z ?_
 obtain ⟨hg1, hm⟩ := aj hm
 refine lg (α := Nat) aa (fun iw => (ir (g) (List.drop iw (l)) (iw : Int) = some r, ⟨19, [(8, .int .i64 iw), (7, .int .i64 ↑l.length), (4, .int .i64 0), (0, .lst false (List.map (cQ eVa) l)), (1, .func (.func fn) [] cap)]⟩, ⟨[], 0, 0, [], []⟩, List.length (l) - iw)) ⟨(0), hm⟩ ?_
 intro i2 hq2
 dsimp only at hq2
 refine z ?_
 refine bkd (fun h3 => z ?_) (fun h3 => z ?_)
 obtain ⟨x3, ex3, ed3⟩ := au h3
 rw [ed3, ir] at hq2
 refine z ?_
 refine bo (bY _) ex3 rfl (z ?_)
 obtain ⟨v4, e4, hq2⟩ := ae hq2
 refine k7 (hg e4) (by (simp only [cg, iG, hw]; try rfl)) (z ?_)
 refine brk (fun h5 => z ?_) (fun h5 => z ?_)
 rw [if_pos h5] at hq2
 cases hq2
 exact fc
 rw [if_neg (nt h5)] at hq2
 exact bk ⟨i2 + 1, hq2⟩
 rw [av h3, ir] at hq2
 cases hq2
 exact fc
abbrev BelV (rec : Vlu Va → Vlu Va → Option Bool) : Prop := ∀ {a b r}, rec a b = some r → aY Tryz.prog 74 [.agg (bM eVa a), .agg (bM eVa b)] fun s => s = .bool r
def yo (rec : Vlu Va → Vlu Va → Option Bool) (x y : Va) : Option Bool := (rec x.v y.v).bind fun c => if c then rec x.d y.d else some false
theorem kO {rec : Vlu Va → Vlu Va → Option Bool} (h : BelV rec) {x y : Va} {r : Bool} (hm : yo rec x y = some r) : aY Tryz.prog 145 [.agg (uVa x), .agg (uVa y)] fun s => s = .bool r := by
 refine ht aa Tryz.f145 ?_
 unfold yo at hm
 refine z ?_
 obtain ⟨v1, e1, hm⟩ := ae hm
 refine ct (h e1) (z ?_)
 refine brk (fun h2 => z ?_) (fun h2 => z ?_)
 rw [if_pos h2] at hm
 replace hm := aG hm
 obtain ⟨v3, e3, hm⟩ := ae hm
 refine ct (h e3) (z ?_)
 cases hm
 exact mst
 rw [if_neg (nt h2)] at hm
 cases hm
 exact mst
def lbE (rec : Vlu Va → Vlu Va → Option Bool) (a b : aT Va) : Option Bool := (aN a.rest).bind fun _ => if (a.rest.length : Int) = 0 then some true else (atI a.rest 0).bind fun x => (atI b.rest 0).bind fun y => yo rec x y
def lbL (rec : Vlu Va → Vlu Va → Option Bool) (a b : aT Va) : List Va → Int → Option Bool
 | [], _ => lbE rec a b
 | x :: r, i => (item b i).bind fun p => (yo rec x p.1).bind fun c => if c then lbL rec a b r (i + 1) else some false
def lbM (rec : Vlu Va → Vlu Va → Option Bool) (a b : aT Va) : Option Bool := (aN b.rest).bind fun _ => (aN a.items).bind fun _ => (aN b.items).bind fun _ =>
 if (a.items.length : Int) < b.items.length then some false else if (b.rest.length : Int) > 0 then lbL rec a b a.items 0
 else if (a.items.length : Int) > b.items.length then some false else (aN a.rest).bind fun _ => if (a.rest.length : Int) > 0 then some false else lbL rec a b a.items 0
theorem lbM_ok {rec : Vlu Va → Vlu Va → Option Bool} (h : BelV rec) {x y : aT Va} {r : Bool} (hm : lbM rec x y = some r) : aY Tryz.prog 101 [.agg (aO eVa x), .agg (aO eVa y)] fun s => s = .bool r := by
 refine ht aa Tryz.f101 ?_
 unfold lbM at hm
 refine z ?_
 obtain ⟨hg1, hm⟩ := aj hm
 obtain ⟨hg2, hm⟩ := aj hm
 obtain ⟨hg3, hm⟩ := aj hm
 refine bkd (fun h4 => z ?_) (fun h4 => z ?_)
 rw [if_pos h4] at hm
 cases hm
 exact mst
 rw [if_neg h4] at hm
 refine bkn (fun h5 => z ?_) (fun h5 => z ?_)
 rw [if_neg h5] at hm
 refine bkd (fun h6 => z ?_) (fun h6 => z ?_)
 rw [if_pos h6] at hm
 cases hm
 exact mst
 rw [if_neg h6] at hm
 obtain ⟨hg7, hm⟩ := aj hm
 refine bkd (fun h8 => z ?_) (fun h8 => z ?_)
 rw [if_pos h8] at hm
 cases hm
 exact mst
 rw [if_neg h8] at hm
 refine lg (α := Nat) aa (fun iw => (lbL (rec) (x) (y) (List.drop iw (x.items)) (iw : Int) = some r, ⟨74, [(43, .int .i64 iw), (42, .int .i64 ↑x.items.length), (41, .lst false (List.map eVa x.items)), (4, .bool false), (3, .ptr 2 0), (2, .ptr 1 0)]⟩, ⟨[(2, .cells (aO eVa y)), (1, .cells (aO eVa x)), (0, aS)], 3, 0, [], []⟩, List.length (x.items) - iw)) ⟨(0), hm⟩ ?_
 intro i9 hq9
 dsimp only at hq9
 refine z ?_
 refine bkd (fun h10 => z ?_) (fun h10 => z ?_)
 obtain ⟨x10, ex10, ed10⟩ := au h10
 rw [ed10, lbL] at hq9
 refine z ?_
 refine bo (bX _) ex10 rfl (z ?_)
 obtain ⟨v11, e11, hq9⟩ := ae hq9
 refine ce (item_ok e11) (z ?_)
 obtain ⟨v12, e12, hq9⟩ := ae hq9
 refine ct (kO h e12) (z ?_)
 refine bkm (fun h13 => z ?_) (fun h13 => z ?_)
 rw [if_neg (nt h13)] at hq9
 cases hq9
 exact mst
 rw [if_pos h13] at hq9
 exact bk ⟨i9 + 1, hq9⟩
 rw [av h10, lbL] at hq9
 unfold lbE at hq9
 refine z ?_
 refine dg aa [0,1,3,7,15,31,63,127,255,31,543,1567,3615,8191,16383,32767] [] (z ?_)
 obtain ⟨hg14, hq9⟩ := aj hq9
 have h15 : ((↑x.rest.length : Int) = 0) := by omega
 refine bdt h15 (z ?_)
 rw [if_pos h15] at hq9
 cases hq9
 exact mst
 rw [if_pos h5] at hm
 refine lg (α := Nat) aa (fun iw => (lbL (rec) (x) (y) (List.drop iw (x.items)) (iw : Int) = some r, ⟨74, [(43, .int .i64 iw), (42, .int .i64 ↑x.items.length), (41, .lst false (List.map eVa x.items)), (4, .bool false), (3, .ptr 2 0), (2, .ptr 1 0)]⟩, ⟨[(2, .cells (aO eVa y)), (1, .cells (aO eVa x)), (0, aS)], 3, 0, [], []⟩, List.length (x.items) - iw)) ⟨(0), hm⟩ ?_
 intro i16 hq16
 dsimp only at hq16
 refine z ?_
 refine bkd (fun h17 => z ?_) (fun h17 => z ?_)
 obtain ⟨x17, ex17, ed17⟩ := au h17
 rw [ed17, lbL] at hq16
 refine z ?_
 refine bo (bX _) ex17 rfl (z ?_)
 obtain ⟨v18, e18, hq16⟩ := ae hq16
 refine ce (item_ok e18) (z ?_)
 obtain ⟨v19, e19, hq16⟩ := ae hq16
 refine ct (kO h e19) (z ?_)
 refine bkm (fun h20 => z ?_) (fun h20 => z ?_)
 rw [if_neg (nt h20)] at hq16
 cases hq16
 exact mst
 rw [if_pos h20] at hq16
 exact bk ⟨i16 + 1, hq16⟩
 rw [av h17, lbL] at hq16
 unfold lbE at hq16
 refine z ?_
 refine dg aa [0,1,3,7,15,31,63,127,255,31,543,1567,3615,8191,16383,32767] [] (z ?_)
 obtain ⟨hg21, hq16⟩ := aj hq16
 refine bkd (fun h22 => z ?_) (fun h22 => z ?_)
 rw [if_pos h22] at hq16
 cases hq16
 exact mst
 rw [if_neg h22] at hq16
 obtain ⟨j23, x23, en23, ex23, hq16⟩ := aB hq16
 refine bU (bX _) en23 ex23 rfl (z ?_)
 obtain ⟨j24, x24, en24, ex24, hq16⟩ := aB hq16
 refine bU (bX _) en24 ex24 rfl (z ?_)
 replace hq16 := aG hq16
 obtain ⟨v25, e25, hq16⟩ := ae hq16
 refine ct (kO h e25) (z ?_)
 cases hq16
 exact mst
def sbV (rec : Vlu Va → Vlu Va → Option Bool) (a b : aI Va) (f : Fld Va) : Option Bool := (view a f.label).bind fun x => (view b f.label).bind fun y => if x.2 > y.2 then some false else yo rec x.1 y.1
def vo (rec : Vlu Va → Vlu Va → Option Bool) (x : Cls Va) : List (Cls Va) → Option Bool
 | [] => some true
 | y :: r => (yo rec x.val y.val).bind fun c => if c then vo rec x r else (andL x.set y.set).bind fun l => (aN l).bind fun _ => if (l.length : Int) > 0 then some false else vo rec x r
def sbC (rec : Vlu Va → Vlu Va → Option Bool) (kb : List (Cls Va)) : List (Cls Va) → Option Bool
 | [] => some true
 | x :: r => (aN kb).bind fun _ => (vo rec x kb).bind fun c => if c then sbC rec kb r else some false
def sbF2 (rec : Vlu Va → Vlu Va → Option Bool) (a b : aI Va) : List (Fld Va) → Option Bool
 | [] => (aN a.aA).bind fun _ => sbC rec b.aA a.aA
 | f :: r => (sbV rec a b f).bind fun c => if c then sbF2 rec a b r else some false
def sbF1 (rec : Vlu Va → Vlu Va → Option Bool) (a b : aI Va) : List (Fld Va) → Option Bool
 | [] => (aN b.fields).bind fun _ => sbF2 rec a b b.fields
 | f :: r => (sbV rec a b f).bind fun c => if c then sbF1 rec a b r else some false
def sbM (rec : Vlu Va → Vlu Va → Option Bool) (a b : aI Va) : Option Bool := (aN a.fields).bind fun _ => sbF1 rec a b a.fields
theorem sbM_ok {rec : Vlu Va → Vlu Va → Option Bool} (h : BelV rec) {x y : aI Va} {r : Bool} (hm : sbM rec x y = some r) : aY Tryz.prog 104 [.agg (aF eVa x), .agg (aF eVa y)] fun s => s = .bool r := by
 refine ht aa Tryz.f104 ?_
 unfold sbM at hm
 refine z ?_
 refine dg aa [0,1,0,4,12,0,32,96,255,0,512,2047,4095,0] [] (z ?_)
 obtain ⟨hg1, hm⟩ := aj hm
 refine ⟨0, _, rfl, rfl, rfl, Nat.zero_le _, by simp only [List.length_map]; omega, ?_⟩
 refine z ?_
 refine as_all (z ?_)
 refine fj (z ?_)
 refine bd aa ?_
 refine z ?_
 refine b5 (j := 0) rfl (by simp) (z ?_)
 refine ⟨_, rfl, ?_⟩
 refine z ?_
 refine lg (α := Nat) aa (fun iw => (sbF1 (rec) (x) (y) (List.drop iw (x.fields)) = some r, ⟨97, [(36, .int .i64 iw), (35, SVal.int IntKind.i64 ↑x.fields.length), (34, SVal.lst false (List.map (cC eVa) x.fields)), (6, SVal.lst false (List.map (cC eVa) x.fields)), (33, SVal.lst false (List.map (cC eVa) x.fields)), (32, SVal.ec 3 0 0 0), (30, SVal.int IntKind.i64 0), (29, SVal.int IntKind.i64 ↑[[SVal.lst false (List.map (cC eVa) x.fields)], [SVal.lst false (List.map (cC eVa) y.fields)]].length), (28, SVal.own 3 0), (4, SVal.bool false), (3, SVal.ptr 2 0), (2, SVal.ptr 1 0)]⟩, ⟨[(3, aV.row 1 [[SVal.lst false (List.map (cC eVa) x.fields)], [SVal.lst false (List.map (cC eVa) y.fields)]] 0 false), (2, aV.cells (aF eVa y)), (1, aV.cells (aF eVa x)), (0, aS)], 4, 0, [], []⟩, List.length (x.fields) - iw)) ⟨(0), hm⟩ ?_
 intro i2 hq2
 dsimp only at hq2
 refine z ?_
 refine bkd (fun h3 => z ?_) (fun h3 => z ?_)
 obtain ⟨x3, ex3, ed3⟩ := au h3
 rw [ed3, sbF1] at hq2
 unfold sbV at hq2
 rw [Option.bind_assoc] at hq2
 refine z ?_
 refine bo (cq _) ex3 rfl (z ?_)
 obtain ⟨v4, e4, hq2⟩ := ae hq2
 refine ce (pB e4) ?_
 rw [Option.bind_assoc] at hq2
 refine z ?_
 obtain ⟨v5, e5, hq2⟩ := ae hq2
 refine ce (pB e5) (z ?_)
 refine bkd (fun h6 => z ?_) (fun h6 => z ?_)
 rw [if_pos h6] at hq2
 dsimp only [Option.bind_some] at hq2
 rw [if_neg Bool.false_ne_true] at hq2
 cases hq2
 exact mst
 rw [if_neg h6] at hq2
 obtain ⟨v7, e7, hq2⟩ := ae hq2
 refine ct (kO h e7) (z ?_)
 refine bkm (fun h8 => z ?_) (fun h8 => z ?_)
 rw [if_neg (nt h8)] at hq2
 cases hq2
 exact mst
 rw [if_pos h8] at hq2
 exact bk ⟨i2 + 1, hq2⟩
 rw [av h3, sbF1] at hq2
 refine bd aa ?_
 refine z ?_
 obtain ⟨hg9, hq2⟩ := aj hq2
 refine b5 (j := 1) rfl (by simp) (z ?_)
 refine ⟨_, rfl, ?_⟩
 refine z ?_
 refine a8 rfl rfl ?_
 refine lg (α := Nat) aa (fun iw => (sbF2 (rec) (x) (y) (List.drop iw (y.fields)) = some r, ⟨97, [(36, .int .i64 iw), (35, SVal.int IntKind.i64 ↑y.fields.length), (34, SVal.lst false (List.map (cC eVa) y.fields)), (6, SVal.lst false (List.map (cC eVa) y.fields)), (33, SVal.lst false (List.map (cC eVa) y.fields)), (32, SVal.ec 3 0 1 0), (30, SVal.int IntKind.i64 (0 + 1)), (64, SVal.int IntKind.i64 (0 + 1)), (29, SVal.int IntKind.i64 ↑[[SVal.lst false (List.map (cC eVa) x.fields)], [SVal.lst false (List.map (cC eVa) y.fields)]].length), (28, SVal.own 3 0), (4, SVal.bool false), (3, SVal.ptr 2 0), (2, SVal.ptr 1 0)]⟩, ⟨[(3, aV.row 1 [[SVal.lst false (List.map (cC eVa) x.fields)], [SVal.lst false (List.map (cC eVa) y.fields)]] 0 false), (2, aV.cells (aF eVa y)), (1, aV.cells (aF eVa x)), (0, aS)], 4, 0, [], []⟩, List.length (y.fields) - iw)) ⟨(0), hq2⟩ ?_
 intro i10 hq10
 dsimp only at hq10
 refine z ?_
 refine bkd (fun h11 => z ?_) (fun h11 => z ?_)
 obtain ⟨x11, ex11, ed11⟩ := au h11
 rw [ed11, sbF2] at hq10
 unfold sbV at hq10
 rw [Option.bind_assoc] at hq10
 refine z ?_
 refine bo (cq _) ex11 rfl (z ?_)
 obtain ⟨v12, e12, hq10⟩ := ae hq10
 refine ce (pB e12) ?_
 rw [Option.bind_assoc] at hq10
 refine z ?_
 obtain ⟨v13, e13, hq10⟩ := ae hq10
 refine ce (pB e13) (z ?_)
 refine bkd (fun h14 => z ?_) (fun h14 => z ?_)
 rw [if_pos h14] at hq10
 dsimp only [Option.bind_some] at hq10
 rw [if_neg Bool.false_ne_true] at hq10
 cases hq10
 exact mst
 rw [if_neg h14] at hq10
 obtain ⟨v15, e15, hq10⟩ := ae hq10
 refine ct (kO h e15) (z ?_)
 refine bkm (fun h16 => z ?_) (fun h16 => z ?_)
 rw [if_neg (nt h16)] at hq10
 cases hq10
 exact mst
 rw [if_pos h16] at hq10
 exact bk ⟨i10 + 1, hq10⟩
 rw [av h11, sbF2] at hq10
 refine bd aa ?_
 refine z ?_
 obtain ⟨hg17, hq10⟩ := aj hq10
 refine a8 rfl rfl ?_
 refine lg (α := Nat) aa (fun iw => (sbC (rec) (y.aA) (List.drop iw (x.aA)) = some r, ⟨97, [(68, .int .i64 iw), (67, SVal.int IntKind.i64 ↑x.aA.length), (66, SVal.lst false (List.map (cQ eVa) x.aA)), (4, SVal.bool false), (3, SVal.ptr 2 0)]⟩, ⟨[(3, aV.row 1 [[SVal.lst false (List.map (cC eVa) x.fields)], [SVal.lst false (List.map (cC eVa) y.fields)]] 0 false), (2, aV.cells (aF eVa y)), (1, aV.cells (aF eVa x)), (0, aS)], 4, 0, [], []⟩, List.length (x.aA) - iw)) ⟨(0), hq10⟩ ?_
 intro i18 hq18
 dsimp only at hq18
 refine z ?_
 refine bkd (fun h19 => z ?_) (fun h19 => z ?_)
 obtain ⟨x19, n9, ed19⟩ := au h19
 rw [ed19, sbC] at hq18
 refine z ?_
 obtain ⟨hg20, hq18⟩ := aj hq18
 refine bo (bY _) n9 rfl (z ?_)
 obtain ⟨v21, hv21, hq18⟩ := ae hq18
 refine lg (α := Nat) aa (fun iw => (vo (rec) (x19) (List.drop iw (y.aA)) = some v21, ⟨97, [(75, .int .i64 iw), (74, SVal.int IntKind.i64 ↑y.aA.length), (73, SVal.lst false (List.map (cQ eVa) y.aA)), (14, SVal.ptr 4 0), (68, SVal.int IntKind.i64 ↑i18), (67, SVal.int IntKind.i64 ↑x.aA.length), (66, SVal.lst false (List.map (cQ eVa) x.aA)), (4, SVal.bool false), (3, SVal.ptr 2 0)]⟩, ⟨[(4, aV.cells (ep x19)), (3, aV.row 1 [[SVal.lst false (List.map (cC eVa) x.fields)], [SVal.lst false (List.map (cC eVa) y.fields)]] 0 false), (2, aV.cells (aF eVa y)), (1, aV.cells (aF eVa x)), (0, aS)], 5, 0, [], []⟩, List.length (y.aA) - iw)) ⟨(0), hv21⟩ ?_
 intro i21 hq21
 dsimp only at hq21
 refine z ?_
 refine bkd (fun h22 => z ?_) (fun h22 => z ?_)
 obtain ⟨x22, ex22, ed22⟩ := au h22
 rw [ed22, vo] at hq21
 refine z ?_
 refine bo (bY _) ex22 rfl (z ?_)
 obtain ⟨v23, e23, hq21⟩ := ae hq21
 refine ct (kO h e23) (z ?_)
 refine bkm (fun h24 => z ?_) (fun h24 => z ?_)
 rw [if_neg (nt h24)] at hq21
 obtain ⟨v25, e25, hq21⟩ := ae hq21
 refine ct (andL_ok e25) (z ?_)
 obtain ⟨hg26, hq21⟩ := aj hq21
 refine bkd (fun h27 => z ?_) (fun h27 => z ?_)
 rw [if_pos h27] at hq21
 cases hq21
 rw [if_neg Bool.false_ne_true] at hq18
 cases hq18
 exact mst
 rw [if_neg h27] at hq21
 exact bk ⟨i21 + 1, hq21⟩
 rw [if_pos h24] at hq21
 exact bk ⟨i21 + 1, hq21⟩
 rw [av h22, vo] at hq21
 cases hq21
 rw [if_pos rfl] at hq18
 exact bk ⟨i18 + 1, hq18⟩
 rw [av h19, sbC] at hq18
 cases hq18
 exact mst
def oo : Nat → Vlu Va → Vlu Va → Option Bool
 | 0, _, _ => none
 | n + 1, a, b => if a.any then some b.any else if b.any then some b.any else (oC (.mk a zV) (.mk b zV)).bind fun c => if c then some true else (kr a.sc b.sc).bind fun c => if c then
   (y7 (lbM (oo n)) a.lists b.lists).bind fun c => if c then y7 (sbM (oo n)) a.structs b.structs else some false else some false
theorem wA : ∀ {n : Nat}, BelV (oo n) := by
 intro n
 induction n with
 | zero => intro a b r hm; cases hm
 | succ n ih =>
  intro a b r hm
  refine ht aa Tryz.f74 ?_
  unfold oo at hm
  refine z ?_
  refine brk (fun h1 => z ?_) (fun h1 => z ?_)
  ·rw [if_pos h1] at hm
   cases hm
   exact mst
  ·rw [if_neg (nt h1)] at hm
   refine brk (fun h2 => z ?_) (fun h2 => z ?_)
   ·rw [if_pos h2] at hm
    cases hm
    exact mst
   ·rw [if_neg (nt h2)] at hm
    obtain ⟨v3, e3, hm⟩ := ae hm
    refine ce (qA e3) (z ?_)
    refine brk (fun h4 => z ?_) (fun h4 => z ?_)
    ·rw [if_pos h4] at hm
     cases hm
     exact mst
    ·rw [if_neg (nt h4)] at hm
     obtain ⟨v5, e5, hm⟩ := ae hm
     refine ct (qj e5) (z ?_)
     refine bkm (fun h6 => z ?_) (fun h6 => z ?_)
     ·rw [if_neg (nt h6)] at hm
      cases hm
      exact mst
     ·rw [if_pos h6] at hm
      obtain ⟨v7, e7, hm⟩ := ae hm
      refine ct (coL_ok (lbM_ok ih) e7) (z ?_)
      refine brk (fun h8 => z ?_) (fun h8 => z ?_)
      ·rw [if_pos h8] at hm
       replace hm := aG hm
       obtain ⟨v9, e9, hm⟩ := ae hm
       refine ct (coS_ok (sbM_ok ih) e9) (z ?_)
       cases hm
       exact mst
      ·rw [if_neg (nt h8)] at hm
       cases hm
       exact mst
end Go.Proofs.YtmjddpeookapaaaGreatDoor
