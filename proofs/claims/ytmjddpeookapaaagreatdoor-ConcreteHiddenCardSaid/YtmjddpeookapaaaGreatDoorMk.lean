/- For ConcreteHidden: functions of the program, walked beside Lean functions that say what they compute. -/
import Derived.Test.YtmjddpeookapaaaGreatDoorEn
import Derived.KernelRfl
import Derived.Test.YtmjddpeookapaaaGreatDoorMj
import Derived.Test.YtmjddpeookapaaaGreatDoorSV
set_option linter.unusedVariables false
set_option linter.unusedSimpArgs false
set_option linter.unusedSectionVars false
namespace Go.Proofs.YtmjddpeookapaaaGreatDoor
open Sv
set_option maxRecDepth 100000
set_option maxHeartbeats 2000000
/-! list cases -/
abbrev CanV (cv : Va → Option (Va × Bool)) : Prop := ∀ {x r}, cv x = some r → aY Tryz.prog 52 [.agg (uVa x)] fun s => s = .tup [.agg (uVa r.1), .bool r.2]
def oY (cv : Va → Option (Va × Bool)) (is : Bool) (items : List Va) : List Va → List Va → Option (aT Va × Bool × Bool)
 | [], out => some (⟨items, out⟩, is, true)
 | x :: r, out => (cv x).bind fun p => if p.2 then (jd p.1.v).bind fun b => if b then oY cv is items r out else (push out p.1).bind fun out => oY cv is items r out else some (⟨[], []⟩, false, false)
def clI (cv : Va → Option (Va × Bool)) (rest : List Va) : List Va → Bool → List Va → Option (aT Va × Bool × Bool)
 | [], is, out => (aN rest).bind fun _ => oY cv is out rest []
 | x :: r, is, out => (cv x).bind fun p => if p.2 then if is then (jd p.1.v).bind fun b => (push out p.1).bind fun out => clI cv rest r (!b) out else (push out p.1).bind fun out => clI cv rest r false out
  else some (⟨[], []⟩, false, false)
def canL (cv : Va → Option (Va × Bool)) (c : aT Va) : Option (aT Va × Bool × Bool) := (aN c.items).bind fun _ => clI cv c.rest c.items true []
theorem canL_ok {cv : Va → Option (Va × Bool)} (h : CanV cv) {c : aT Va} {r : aT Va × Bool × Bool} (hm : canL cv c = some r) : aY Tryz.prog 98 [.agg (aO eVa c)] fun s => s = .tup [.agg (aO eVa r.1), .bool r.2.1, .bool r.2.2] := by
 refine ht aa Tryz.f98 ?_
 unfold canL at hm
 refine z ?_
 obtain ⟨hg1, hm⟩ := aj hm
 refine bj 3 0 18 rfl rfl ?_
 refine lg (α := Nat × Bool × List Va × Nat) aa (fun (iw, s1, s2, ts2) => (clI (cv) (c.rest) (List.drop iw (c.items)) s1 s2 = some r, ⟨72, [(18, .int .i64 iw), (17, .int .i64 ↑c.items.length), (16, .lst false (List.map eVa c.items)), (6, .bool s1), (5, .ptr 3 0), (4, .bool false), (3, .bool false), (2, .ptr 2 0), (1, .ptr 1 0)]⟩, ⟨[(4, .row 18 (s2.map eVa) ts2 false), (3, .cells [.own 4 ts2, .az]), (2, .cells [.az, .az]), (1, .cells (aO eVa c)), (0, aS)], 5, 0, [], []⟩, List.length (c.items) - iw)) ⟨(0, _, _, (0)), hm⟩ ?_
 rintro ⟨i2, s1_2, s2_2, ts2_2⟩ hq2
 dsimp only at hq2
 refine z ?_
 refine bkd (fun h3 => z ?_) (fun h3 => z ?_)
 obtain ⟨x3, ex3, ed3⟩ := au h3
 rw [ed3, clI] at hq2
 refine z ?_
 refine bo (bX _) ex3 rfl (z ?_)
 obtain ⟨v4, e4, hq2⟩ := ae hq2
 refine ct (h e4) (z ?_)
 refine bkm (fun h5 => z ?_) (fun h5 => z ?_)
 rw [if_neg (nt h5)] at hq2
 cases hq2
 refine aR (z ?_)
 exact mt
 rw [if_pos h5] at hq2
 refine brk (fun h6 => z ?_) (fun h6 => z ?_)
 rw [if_pos h6] at hq2
 obtain ⟨v7, e7, hq2⟩ := ae hq2
 refine ct (iq e7) (z ?_)
 obtain ⟨hg8, hq2⟩ := aD hq2
 refine z ?_
 refine aH (v4.fst) (bX _) (z ?_)
 exact bk ⟨(i2 + 1, _, _, (ts2_2 + 1)), hq2⟩
 rw [if_neg (nt h6)] at hq2
 obtain ⟨hg9, hq2⟩ := aD hq2
 refine z ?_
 refine aH (v4.fst) (bX _) (z ?_)
 exact bk ⟨(i2 + 1, _, _, (ts2_2 + 1)), hq2⟩
 rw [av h3, clI] at hq2
 obtain ⟨hg10, hq2⟩ := aj hq2
 refine a8 rfl rfl ?_
 refine bj 3 1 18 rfl rfl ?_
 refine lg (α := Nat × List Va × Nat) aa (fun (iw, s1, ts1) => (oY (cv) (s1_2) (s2_2) (List.drop iw (c.rest)) s1 = some r, ⟨72, [(47, .int .i64 iw), (46, .int .i64 ↑c.rest.length), (45, .lst false (List.map eVa c.rest)), (6, .bool s1_2), (5, .ptr 3 0), (4, .bool false), (3, .bool false), (2, .ptr 2 0)]⟩, ⟨[(5, .row 18 (s1.map eVa) ts1 false), (4, .row 18 (List.map eVa s2_2) ts2_2 false), (3, .cells [.own 4 ts2_2, .own 5 ts1]), (2, .cells [.az, .az]), (1, .cells (aO eVa c)), (0, aS)], 6, 0, [], []⟩, List.length (c.rest) - iw)) ⟨(0, _, (0)), hq2⟩ ?_
 rintro ⟨i11, s1_11, ts1_11⟩ hq11
 dsimp only at hq11
 refine z ?_
 refine bkd (fun h12 => z ?_) (fun h12 => z ?_)
 obtain ⟨x12, ex12, ed12⟩ := au h12
 rw [ed12, oY] at hq11
 refine z ?_
 refine bo (bX _) ex12 rfl (z ?_)
 obtain ⟨v13, e13, hq11⟩ := ae hq11
 refine ct (h e13) (z ?_)
 refine bkm (fun h14 => z ?_) (fun h14 => z ?_)
 rw [if_neg (nt h14)] at hq11
 cases hq11
 refine aR (z ?_)
 exact mt
 rw [if_pos h14] at hq11
 obtain ⟨v15, e15, hq11⟩ := ae hq11
 refine ct (iq e15) (z ?_)
 refine bkm (fun h16 => z ?_) (fun h16 => z ?_)
 rw [if_neg (nt h16)] at hq11
 obtain ⟨hg17, hq11⟩ := aD hq11
 refine z ?_
 refine aH (v13.fst) (bX _) (z ?_)
 exact bk ⟨(i11 + 1, _, (ts1_11 + 1)), hq11⟩
 rw [if_pos h16] at hq11
 exact bk ⟨(i11 + 1, _, (ts1_11)), hq11⟩
 rw [av h12, oY] at hq11
 cases hq11
 refine aR (z ?_)
 exact mt
theorem cs1_ok {x : Cls Va} {v : Va} {r : Bool} (hm : oC x.val v = some r) : Has Tryz.prog 137 [.agg (ep x), .bA (uVa v) 0] fun s => s = .bool r := by
 refine hs aa Tryz.f137 (z ?_)
 replace hm := aG hm
 obtain ⟨v1, e1, hm⟩ := ae hm
 refine ce (qA e1) (z ?_)
 cases hm
 exact fc
def cmpC2 (x y : Cls Va) : Option Int := ze x.set y.set
theorem cs2_ok {x y : Cls Va} {r : Int} (hm : cmpC2 x y = some r) : aY Tryz.prog 139 [.agg (ep x), .agg (ep y)] fun s => s = .int .i64 r := by
 refine ht aa Tryz.f139 ?_
 unfold cmpC2 at hm
 refine z ?_
 replace hm := aG hm
 obtain ⟨v1, e1, hm⟩ := ae hm
 refine ct (vZ e1) (z ?_)
 cases hm
 exact mst
def csK (cv : Va → Option (Va × Bool)) (is : Bool) (fs : List (Fld Va)) : List (Cls Va) → List (Cls Va) → Option (aI Va × Bool × Bool)
 | [], out => (hY cmpC2 out).bind fun out => some (⟨fs, out⟩, is, true)
 | k :: r, out => (cv k.val).bind fun p => if p.2 then (tg (fun x => oC x.val p.1) out).bind fun i => if i < 0 then
    (orL k.set []).bind fun l => (push out ⟨l, p.1⟩).bind fun out => csK cv is fs r out
   else (atI out i).bind fun y => (orL y.set k.set).bind fun l => (nP out i fun z => ⟨l, z.val⟩).bind fun out => csK cv is fs r out
  else some (⟨[], []⟩, false, false)
def csF (cv : Va → Option (Va × Bool)) (ks : List (Cls Va)) : List (Fld Va) → Bool → List (Fld Va) → Option (aI Va × Bool × Bool)
 | [], is, out => (aN ks).bind fun _ => csK cv is out ks []
 | f :: r, is, out => (cv f.val).bind fun p => if p.2 then if is then (jd p.1.v).bind fun b => (push out ⟨f.label, f.fe, p.1⟩).bind fun out => csF cv ks r (!b) out else (push out ⟨f.label, f.fe, p.1⟩).bind fun out => csF cv ks r false out
  else some (⟨[], []⟩, false, false)
def canS (cv : Va → Option (Va × Bool)) (c : aI Va) : Option (aI Va × Bool × Bool) := (aN c.fields).bind fun _ => csF cv c.aA c.fields true []
theorem canS_ok {cv : Va → Option (Va × Bool)} (h : CanV cv) {c : aI Va} {r : aI Va × Bool × Bool} (hm : canS cv c = some r) : aY Tryz.prog 99 [.agg (aF eVa c)] fun s => s = .tup [.agg (aF eVa r.1), .bool r.2.1, .bool r.2.2] := by
 refine ht aa Tryz.f99 ?_
 unfold canS at hm
 refine z ?_
 obtain ⟨hg1, hm⟩ := aj hm
 refine bj 3 0 20 rfl rfl ?_
 refine lg (α := Nat × Bool × List (Fld Va) × Nat) aa (fun (iw, s1, s2, ts2) => (csF (cv) (c.aA) (List.drop iw (c.fields)) s1 s2 = some r, ⟨101, [(19, .int .i64 iw), (18, .int .i64 ↑c.fields.length), (17, .lst false (List.map (cC eVa) c.fields)), (6, .bool s1), (5, .ptr 3 0), (4, .bool false), (3, .bool false), (2, .ptr 2 0), (1, .ptr 1 0)]⟩, ⟨[(4, .row 20 (s2.map (cC eVa)) ts2 false), (3, .cells [.own 4 ts2, .az]), (2, .cells [.az, .az]), (1, .cells (aF eVa c)), (0, aS)], 5, 0, [], []⟩, List.length (c.fields) - iw)) ⟨(0, _, _, (0)), hm⟩ ?_
 rintro ⟨i2, s1_2, s2_2, ts2_2⟩ hq2
 dsimp only at hq2
 refine z ?_
 refine bkd (fun h3 => z ?_) (fun h3 => z ?_)
 obtain ⟨x3, ex3, ed3⟩ := au h3
 rw [ed3, csF] at hq2
 refine z ?_
 refine bo (cq _) ex3 rfl (z ?_)
 obtain ⟨v4, e4, hq2⟩ := ae hq2
 refine ct (h e4) (z ?_)
 refine bkm (fun h5 => z ?_) (fun h5 => z ?_)
 rw [if_neg (nt h5)] at hq2
 cases hq2
 refine aR (z ?_)
 exact mt
 rw [if_pos h5] at hq2
 refine brk (fun h6 => z ?_) (fun h6 => z ?_)
 rw [if_pos h6] at hq2
 obtain ⟨v7, e7, hq2⟩ := ae hq2
 refine ct (iq e7) (z ?_)
 obtain ⟨hg8, hq2⟩ := aD hq2
 refine z ?_
 refine aH ({ label := x3.label, fe := x3.fe, val := v4.fst }) (cq _) (z ?_)
 exact bk ⟨(i2 + 1, _, _, (ts2_2 + 1)), hq2⟩
 rw [if_neg (nt h6)] at hq2
 obtain ⟨hg9, hq2⟩ := aD hq2
 refine z ?_
 refine aH ({ label := x3.label, fe := x3.fe, val := v4.fst }) (cq _) (z ?_)
 exact bk ⟨(i2 + 1, _, _, (ts2_2 + 1)), hq2⟩
 rw [av h3, csF] at hq2
 obtain ⟨hg10, hq2⟩ := aj hq2
 refine a8 rfl rfl ?_
 refine bj 3 1 19 rfl rfl ?_
 refine lg (α := Nat × List (Cls Va) × Nat) aa (fun (iw, s1, ts1) => (csK (cv) (s1_2) (s2_2) (List.drop iw (c.aA)) s1 = some r, ⟨101, [(51, .int .i64 iw), (50, .int .i64 ↑c.aA.length), (49, .lst false (List.map (cQ eVa) c.aA)), (6, .bool s1_2), (5, .ptr 3 0), (4, .bool false), (3, .bool false), (2, .ptr 2 0)]⟩, ⟨[(5, .row 19 (s1.map (cQ eVa)) ts1 false), (4, .row 20 (List.map (cC eVa) s2_2) ts2_2 false), (3, .cells [.own 4 ts2_2, .own 5 ts1]), (2, .cells [.az, .az]), (1, .cells (aF eVa c)), (0, aS)], 6, 0, [], []⟩, List.length (c.aA) - iw)) ⟨(0, _, (0)), hq2⟩ ?_
 rintro ⟨i11, s1_11, ts1_11⟩ hq11
 dsimp only at hq11
 refine z ?_
 refine bkd (fun h12 => z ?_) (fun h12 => z ?_)
 obtain ⟨x12, ex12, ed12⟩ := au h12
 rw [ed12, csK] at hq11
 refine z ?_
 refine bo (bY _) ex12 rfl (z ?_)
 obtain ⟨v13, e13, hq11⟩ := ae hq11
 refine ct (h e13) (z ?_)
 refine bkm (fun h14 => z ?_) (fun h14 => z ?_)
 rw [if_neg (nt h14)] at hq11
 cases hq11
 refine aR (z ?_)
 exact mt
 rw [if_pos h14] at hq11
 obtain ⟨v15, e15, hq11⟩ := ae hq11
 refine bH (ixC_ok (by simp only [aw, closed, aJ, cw, bB, bR, clR, cl, cY, Bool.and_self]) rfl cs1_ok e15) rfl (z ?_)
 refine bkd (fun h16 => z ?_) (fun h16 => z ?_)
 rw [if_pos h16] at hq11
 refine dg aa [0,1,0,4,0,28,0,124,252,511,1023,2047] [] (z ?_)
 obtain ⟨v17, e17, hq11⟩ := ae hq11
 refine ct (vx e17) (z ?_)
 obtain ⟨hg18, hq11⟩ := aD hq11
 refine z ?_
 refine aH ({ set := v17, val := v13.fst }) (bY _) (z ?_)
 exact bk ⟨(i11 + 1, _, (ts1_11 + 1)), hq11⟩
 rw [if_neg h16] at hq11
 refine dg aa [0,1,0,0,8,0,56,120,248,0,512,2040,4095,8191,16383] [] (z ?_)
 obtain ⟨j19, x19, en19, n9, hq11⟩ := aB hq11
 refine aK en19 n9 (z ?_)
 refine mu (bY _) n9 (z ?_)
 obtain ⟨v20, e20, hq11⟩ := ae hq11
 refine ct (vx e20) (z ?_)
 obtain ⟨j21, x21, en21, ex21, hq11⟩ := bL hq11
 refine aK en21 ex21 (z ?_)
 refine zQ _ ({ set := v20, val := x21.val }) (bY _) (bY _) ex21 rfl (z ?_)
 exact bk ⟨(i11 + 1, _, (ts1_11)), hq11⟩
 rw [av h12, csK] at hq11
 obtain ⟨v22, e22, hq11⟩ := ae hq11
 refine cG 5 (sortCls_ok rfl rfl cs2_ok e22) rfl rfl rfl rfl (z ?_)
 cases hq11
 refine aR (z ?_)
 exact mt
def ofL (c : aT Va) : Option (Vlu Va) := some ⟨false, dX, [c], []⟩
theorem ofL_ok {c : aT Va} {r : Vlu Va} (hm : ofL c = some r) : Has Tryz.prog 102 [.agg (aO eVa c)] fun s => s = .agg (bM eVa r) := by
 refine hs aa Tryz.f102 ?_
 unfold ofL at hm
 refine z ?_
 cases hm
 refine cP (z ?_)
 first | exact e2 | exact rfl
def ofSt (c : aI Va) : Option (Vlu Va) := some ⟨false, dX, [], [c]⟩
theorem ofSt_ok {c : aI Va} {r : Vlu Va} (hm : ofSt c = some r) : Has Tryz.prog 105 [.agg (aF eVa c)] fun s => s = .agg (bM eVa r) := by
 refine hs aa Tryz.f105 ?_
 unfold ofSt at hm
 refine z ?_
 cases hm
 refine cP (z ?_)
 first | exact e2 | exact rfl
section
variable {α : Type}
def mxI (is : α → α → Option Bool) (x : α) (i : Int) : List α → Int → Option Bool
 | [], _ => some false
 | y :: r, k => if i = k then mxI is x i r (k + 1) else (is x y).bind fun c => if c then if k < i then some true else (is y x).bind fun d => if d then mxI is x i r (k + 1) else some true else mxI is x i r (k + 1)
def mxO (is : α → α → Option Bool) (l : List α) : List α → Int → List α → Option (List α)
 | [], _, out => some out
 | x :: r, i, out => (aN l).bind fun _ => (mxI is x i l 0).bind fun d => if d then mxO is l r (i + 1) out else (push out x).bind fun out => mxO is l r (i + 1) out
def uG (of : α → Option (Vlu Va)) (x y : α) : Option Int := (of x).bind fun a => (of y).bind fun b => rR a b
def te (is : α → α → Option Bool) (of : α → Option (Vlu Va)) (l : List α) : Option (List α) := (aN l).bind fun _ => (mxO is l l 0 []).bind fun out => hY (uG of) out
end
theorem mxL1_ok {fo : FuncId} {of : aT Va → Option (Vlu Va)} (ho : ∀ {x r}, of x = some r → Has Tryz.prog fo [.agg (aO eVa x)] fun s => s = .agg (bM eVa r)) {x y : aT Va} {r : Int} (hm : uG of x y = some r) : aY Tryz.prog 142 [.agg (aO eVa x), .agg (aO eVa y), .bA [.func (.func fo) [] []] 0] fun s => s = .int .i64 r := by
 refine ht aa Tryz.f142 ?_
 unfold uG at hm
 refine z ?_
 refine dg aa [0,0,3,0,0,31,63,127] [] (z ?_)
 obtain ⟨v1, e1, hm⟩ := ae hm
 refine ce (ho e1) (z ?_)
 obtain ⟨v2, e2, hm⟩ := ae hm
 refine ce (ho e2) (z ?_)
 replace hm := aG hm
 obtain ⟨v3, e3, hm⟩ := ae hm
 refine ct (uE e3) (z ?_)
 cases hm
 exact mst
theorem mxL_ok {fi fo : FuncId} {is : aT Va → aT Va → Option Bool} {of : aT Va → Option (Vlu Va)} (hi : ∀ {x y r}, is x y = some r → aY Tryz.prog fi [.agg (aO eVa x), .agg (aO eVa y)] fun s => s = .bool r) (ho : ∀ {x r}, of x = some r → Has Tryz.prog fo [.agg (aO eVa x)] fun s => s = .agg (bM eVa r)) {l r : List (aT Va)} (hm : te is of l = some r) : aY Tryz.prog 100 [.lst false (l.map (aO eVa)), .func (.func fi) [] [], .func (.func fo) [] []] fun s => s = .lst false (r.map (aO eVa)) := by
 refine ht aa Tryz.f100 ?_
 unfold te at hm
 refine z ?_
 obtain ⟨hg1, hm⟩ := aj hm
 obtain ⟨v2, hv2, hm⟩ := ae hm
 refine b0 7 2 rfl ?_
 refine lg (α := Nat × List (aT Va) × Nat) aa (fun (iw, s1, ts1) => (mxO (is) (l) (List.drop iw (l)) (iw : Int) s1 = some v2, ⟨57, [(7, .own 2 ts1), (14, .int .i64 iw), (13, .int .i64 ↑l.length), (12, .lst false (List.map (aO eVa) l)), (6, .az), (5, .ptr 1 0), (0, .lst false (List.map (aO eVa) l)), (1, .func (.func fi) [] [])]⟩, ⟨[(2, .row 2 (s1.map (aO eVa)) ts1 false), (1, .cells [.func (.func fo) [] []]), (0, aS)], 3, 0, [], []⟩, List.length (l) - iw)) ⟨(0, _, (0)), hv2⟩ ?_
 rintro ⟨i2, s1_2, ts1_2⟩ hq2
 dsimp only at hq2
 refine z ?_
 refine bkd (fun h3 => z ?_) (fun h3 => z ?_)
 obtain ⟨x3, ex3, ed3⟩ := au h3
 rw [ed3, mxO] at hq2
 refine z ?_
 obtain ⟨hg4, hq2⟩ := aj hq2
 refine a6 ex3 rfl (z ?_)
 obtain ⟨v5, hv5, hq2⟩ := ae hq2
 refine lg (α := Nat) aa (fun iw => (mxI (is) (x3) (↑i2) (List.drop iw (l)) (iw : Int) = some v5, ⟨57, [(21, .int .i64 iw), (20, .int .i64 ↑l.length), (19, .lst false (List.map (aO eVa) l)), (8, .int .i64 ↑i2), (9, .ptr 3 0), (7, .own 2 ts1_2), (14, .int .i64 ↑i2), (13, .int .i64 ↑l.length), (12, .lst false (List.map (aO eVa) l)), (6, .az), (5, .ptr 1 0), (0, .lst false (List.map (aO eVa) l)), (1, .func (.func fi) [] [])]⟩, ⟨[(3, .cells [.lst false (List.map eVa x3.items), .lst false (List.map eVa x3.rest)]), (2, .row 2 (List.map (aO eVa) s1_2) ts1_2 false), (1, .cells [.func (.func fo) [] []]), (0, aS)], 4, 0, [], []⟩, List.length (l) - iw)) ⟨(0), hv5⟩ ?_
 intro i5 hq5
 dsimp only at hq5
 refine z ?_
 refine bkd (fun h6 => z ?_) (fun h6 => z ?_)
 obtain ⟨x6, ex6, ed6⟩ := au h6
 rw [ed6, mxI] at hq5
 refine z ?_
 refine a6 ex6 rfl (z ?_)
 refine bkn (fun h7 => z ?_) (fun h7 => z ?_)
 rw [if_neg h7] at hq5
 obtain ⟨v8, e8, hq5⟩ := ae hq5
 refine ct (hi e8) (z ?_)
 refine brk (fun h9 => z ?_) (fun h9 => z ?_)
 rw [if_pos h9] at hq5
 refine bkd (fun h10 => z ?_) (fun h10 => z ?_)
 rw [if_pos h10] at hq5
 cases hq5
 rw [if_pos rfl] at hq2
 exact bk ⟨(i2 + 1, _, (ts1_2)), hq2⟩
 rw [if_neg h10] at hq5
 obtain ⟨v11, e11, hq5⟩ := ae hq5
 refine ct (hi e11) (z ?_)
 refine bkm (fun h12 => z ?_) (fun h12 => z ?_)
 rw [if_neg (nt h12)] at hq5
 cases hq5
 rw [if_pos rfl] at hq2
 exact bk ⟨(i2 + 1, _, (ts1_2)), hq2⟩
 rw [if_pos h12] at hq5
 exact bk ⟨i5 + 1, hq5⟩
 rw [if_neg (nt h9)] at hq5
 exact bk ⟨i5 + 1, hq5⟩
 rw [if_pos h7] at hq5
 exact bk ⟨i5 + 1, hq5⟩
 rw [av h6, mxI] at hq5
 cases hq5
 rw [if_neg Bool.false_ne_true] at hq2
 obtain ⟨hg13, hq2⟩ := aD hq2
 refine z ?_
 refine aH (x3) rfl (z ?_)
 exact bk ⟨(i2 + 1, _, (ts1_2 + 1)), hq2⟩
 rw [av h3, mxO] at hq2
 cases hq2
 refine z ?_
 replace hm := aG hm
 obtain ⟨v14, e14, hm⟩ := ae hm
 refine sh 2 (sortLc_ok rfl rfl (mxL1_ok ho) e14) rfl rfl (z ?_)
 cases hm
 refine aR (z ?_)
 exact mt
theorem mxS1_ok {fo : FuncId} {of : aI Va → Option (Vlu Va)} (ho : ∀ {x r}, of x = some r → Has Tryz.prog fo [.agg (aF eVa x)] fun s => s = .agg (bM eVa r)) {x y : aI Va} {r : Int} (hm : uG of x y = some r) : aY Tryz.prog 147 [.agg (aF eVa x), .agg (aF eVa y), .bA [.func (.func fo) [] []] 0] fun s => s = .int .i64 r := by
 refine ht aa Tryz.f147 ?_
 unfold uG at hm
 refine z ?_
 refine dg aa [0,0,3,0,0,31,63,127] [] (z ?_)
 obtain ⟨v1, e1, hm⟩ := ae hm
 refine ce (ho e1) (z ?_)
 obtain ⟨v2, e2, hm⟩ := ae hm
 refine ce (ho e2) (z ?_)
 replace hm := aG hm
 obtain ⟨v3, e3, hm⟩ := ae hm
 refine ct (uE e3) (z ?_)
 cases hm
 exact mst
theorem mxS_ok {fi fo : FuncId} {is : aI Va → aI Va → Option Bool} {of : aI Va → Option (Vlu Va)} (hi : ∀ {x y r}, is x y = some r → aY Tryz.prog fi [.agg (aF eVa x), .agg (aF eVa y)] fun s => s = .bool r) (ho : ∀ {x r}, of x = some r → Has Tryz.prog fo [.agg (aF eVa x)] fun s => s = .agg (bM eVa r)) {l r : List (aI Va)} (hm : te is of l = some r) : aY Tryz.prog 103 [.lst false (l.map (aF eVa)), .func (.func fi) [] [], .func (.func fo) [] []] fun s => s = .lst false (r.map (aF eVa)) := by
 refine ht aa Tryz.f103 ?_
 unfold te at hm
 refine z ?_
 obtain ⟨hg1, hm⟩ := aj hm
 obtain ⟨v2, hv2, hm⟩ := ae hm
 refine b0 7 2 rfl ?_
 refine lg (α := Nat × List (aI Va) × Nat) aa (fun (iw, s1, ts1) => (mxO (is) (l) (List.drop iw (l)) (iw : Int) s1 = some v2, ⟨57, [(7, .own 2 ts1), (14, .int .i64 iw), (13, .int .i64 ↑l.length), (12, .lst false (List.map (aF eVa) l)), (6, .az), (5, .ptr 1 0), (0, .lst false (List.map (aF eVa) l)), (1, .func (.func fi) [] [])]⟩, ⟨[(2, .row 2 (s1.map (aF eVa)) ts1 false), (1, .cells [.func (.func fo) [] []]), (0, aS)], 3, 0, [], []⟩, List.length (l) - iw)) ⟨(0, _, (0)), hv2⟩ ?_
 rintro ⟨i2, s1_2, ts1_2⟩ hq2
 dsimp only at hq2
 refine z ?_
 refine bkd (fun h3 => z ?_) (fun h3 => z ?_)
 obtain ⟨x3, ex3, ed3⟩ := au h3
 rw [ed3, mxO] at hq2
 refine z ?_
 obtain ⟨hg4, hq2⟩ := aj hq2
 refine a6 ex3 rfl (z ?_)
 obtain ⟨v5, hv5, hq2⟩ := ae hq2
 refine lg (α := Nat) aa (fun iw => (mxI (is) (x3) (↑i2) (List.drop iw (l)) (iw : Int) = some v5, ⟨57, [(21, .int .i64 iw), (20, .int .i64 ↑l.length), (19, .lst false (List.map (aF eVa) l)), (8, .int .i64 ↑i2), (9, .ptr 3 0), (7, .own 2 ts1_2), (14, .int .i64 ↑i2), (13, .int .i64 ↑l.length), (12, .lst false (List.map (aF eVa) l)), (6, .az), (5, .ptr 1 0), (0, .lst false (List.map (aF eVa) l)), (1, .func (.func fi) [] [])]⟩, ⟨[(3, .cells [.lst false (List.map (cC eVa) x3.fields), .lst false (List.map (cQ eVa) x3.aA)]), (2, .row 2 (List.map (aF eVa) s1_2) ts1_2 false), (1, .cells [.func (.func fo) [] []]), (0, aS)], 4, 0, [], []⟩, List.length (l) - iw)) ⟨(0), hv5⟩ ?_
 intro i5 hq5
 dsimp only at hq5
 refine z ?_
 refine bkd (fun h6 => z ?_) (fun h6 => z ?_)
 obtain ⟨x6, ex6, ed6⟩ := au h6
 rw [ed6, mxI] at hq5
 refine z ?_
 refine a6 ex6 rfl (z ?_)
 refine bkn (fun h7 => z ?_) (fun h7 => z ?_)
 rw [if_neg h7] at hq5
 obtain ⟨v8, e8, hq5⟩ := ae hq5
 refine ct (hi e8) (z ?_)
 refine brk (fun h9 => z ?_) (fun h9 => z ?_)
 rw [if_pos h9] at hq5
 refine bkd (fun h10 => z ?_) (fun h10 => z ?_)
 rw [if_pos h10] at hq5
 cases hq5
 rw [if_pos rfl] at hq2
 exact bk ⟨(i2 + 1, _, (ts1_2)), hq2⟩
 rw [if_neg h10] at hq5
 obtain ⟨v11, e11, hq5⟩ := ae hq5
 refine ct (hi e11) (z ?_)
 refine bkm (fun h12 => z ?_) (fun h12 => z ?_)
 rw [if_neg (nt h12)] at hq5
 cases hq5
 rw [if_pos rfl] at hq2
 exact bk ⟨(i2 + 1, _, (ts1_2)), hq2⟩
 rw [if_pos h12] at hq5
 exact bk ⟨i5 + 1, hq5⟩
 rw [if_neg (nt h9)] at hq5
 exact bk ⟨i5 + 1, hq5⟩
 rw [if_pos h7] at hq5
 exact bk ⟨i5 + 1, hq5⟩
 rw [av h6, mxI] at hq5
 cases hq5
 rw [if_neg Bool.false_ne_true] at hq2
 obtain ⟨hg13, hq2⟩ := aD hq2
 refine z ?_
 refine aH (x3) rfl (z ?_)
 exact bk ⟨(i2 + 1, _, (ts1_2 + 1)), hq2⟩
 rw [av h3, mxO] at hq2
 cases hq2
 refine z ?_
 replace hm := aG hm
 obtain ⟨v14, e14, hm⟩ := ae hm
 refine sh 2 (sortSc_ok rfl rfl (mxS1_ok ho) e14) rfl rfl (z ?_)
 cases hm
 refine aR (z ?_)
 exact mt
def xV (c : aT Va) : Option Bool := (aN c.items).bind fun _ => if (c.items.length : Int) = 0 then (aN c.rest).bind fun _ => if (c.rest.length : Int) = 1 then (atI c.rest 0).bind fun x => ug x else some false else some false
theorem openL_ok {c : aT Va} {r : Bool} (hm : xV c = some r) : Has Tryz.prog 152 [.agg (aO eVa c)] fun s => s = .bool r := by
 refine hs aa Tryz.f152 ?_
 unfold xV at hm
 refine z ?_
 obtain ⟨hg1, hm⟩ := aj hm
 refine bkd (fun h2 => z ?_) (fun h2 => z ?_)
 rw [if_pos h2] at hm
 obtain ⟨hg3, hm⟩ := aj hm
 refine bkd (fun h4 => z ?_) (fun h4 => z ?_)
 rw [if_pos h4] at hm
 obtain ⟨j5, x5, en5, ex5, hm⟩ := aB hm
 refine bU (bX _) en5 ex5 rfl (z ?_)
 replace hm := aG hm
 obtain ⟨v6, e6, hm⟩ := ae hm
 refine ce (yw e6) (z ?_)
 cases hm
 exact fc
 rw [if_neg h4] at hm
 cases hm
 exact fc
 rw [if_neg h2] at hm
 cases hm
 exact fc
def qT (c : aI Va) : Option Bool := (aN c.fields).bind fun _ => if (c.fields.length : Int) = 0 then (aN c.aA).bind fun _ => if (c.aA.length : Int) = 1 then (atI c.aA 0).bind fun k => ug k.val else some false else some false
theorem openSt_ok {c : aI Va} {r : Bool} (hm : qT c = some r) : Has Tryz.prog 153 [.agg (aF eVa c)] fun s => s = .bool r := by
 refine hs aa Tryz.f153 ?_
 unfold qT at hm
 refine z ?_
 obtain ⟨hg1, hm⟩ := aj hm
 refine bkd (fun h2 => z ?_) (fun h2 => z ?_)
 rw [if_pos h2] at hm
 obtain ⟨hg3, hm⟩ := aj hm
 refine bkd (fun h4 => z ?_) (fun h4 => z ?_)
 rw [if_pos h4] at hm
 obtain ⟨j5, x5, en5, ex5, hm⟩ := aB hm
 refine bU (bY _) en5 ex5 rfl (z ?_)
 replace hm := aG hm
 obtain ⟨v6, e6, hm⟩ := ae hm
 refine ce (yw e6) (z ?_)
 cases hm
 exact fc
 rw [if_neg h4] at hm
 cases hm
 exact fc
 rw [if_neg h2] at hm
 cases hm
 exact fc
def evM (v : Vlu Va) : Option Bool := (aN v.lists).bind fun _ => if (v.lists.length : Int) = 1 then (aN v.structs).bind fun _ => if (v.structs.length : Int) = 1 then allS.bind fun s => (rS v.sc s).bind fun c => if c = 0 then
 (atI v.lists 0).bind fun l => (xV l).bind fun b => if b then (atI v.structs 0).bind fun s => qT s else some false else some false else some false else some false
theorem evM_ok {v : Vlu Va} {r : Bool} (hm : evM v = some r) : aY Tryz.prog 106 [.agg (bM eVa v)] fun s => s = .bool r := by
 refine ht aa Tryz.f106 ?_
 unfold evM at hm
 refine z ?_
 refine dg aa [0,1,3,7,15,31,63,127,255,511,1023,2047,4095,2047,16383,32767,65535,131071,262143,524287,1048575,2097151,4194303,8388607,16777215,33554431,67108863,134217727,268435455,536870911,1073741823,2147483647] [] (z ?_)
 obtain ⟨hg1, hm⟩ := aj hm
 refine bkd (fun h2 => z ?_) (fun h2 => z ?_)
 rw [if_pos h2] at hm
 obtain ⟨hg3, hm⟩ := aj hm
 refine bkd (fun h4 => z ?_) (fun h4 => z ?_)
 rw [if_pos h4] at hm
 obtain ⟨v5, e5, hm⟩ := ae hm
 refine ct (allS_ok e5) (z ?_)
 obtain ⟨v6, e6, hm⟩ := ae hm
 refine ct (za e6) (z ?_)
 refine bkd (fun h7 => z ?_) (fun h7 => z ?_)
 rw [if_pos h7] at hm
 obtain ⟨j8, x8, en8, ex8, hm⟩ := aB hm
 refine bf en8 ex8 rfl (z ?_)
 obtain ⟨v9, e9, hm⟩ := ae hm
 refine ce (openL_ok e9) (z ?_)
 refine brk (fun h10 => z ?_) (fun h10 => z ?_)
 rw [if_pos h10] at hm
 obtain ⟨j11, x11, en11, ex11, hm⟩ := aB hm
 refine bf en11 ex11 rfl (z ?_)
 replace hm := aG hm
 obtain ⟨v12, e12, hm⟩ := ae hm
 refine ce (openSt_ok e12) (z ?_)
 cases hm
 exact mst
 rw [if_neg (nt h10)] at hm
 cases hm
 exact mst
 rw [if_neg h7] at hm
 cases hm
 exact mst
 rw [if_neg h4] at hm
 cases hm
 exact mst
 rw [if_neg h2] at hm
 cases hm
 exact mst
def copS (s : bW) : Option bW := orS s dX
theorem copS_ok {s r : bW} (hm : copS s = some r) : aY Tryz.prog 97 [.agg (bS s)] fun v => v = .agg (bS r) := by
 refine ht aa Tryz.f97 ?_
 unfold copS at hm
 refine z ?_
 replace hm := aG hm
 obtain ⟨v1, e1, hm⟩ := ae hm
 refine ct (orS_ok e1) (z ?_)
 cases hm
 exact mst
def lA : Nat := 64
def cnE (sc : bW) (ls : List (aT Va)) (ss : List (aI Va)) : Option (Vlu Va × Bool) := (te (lbM (oo lA)) ofL ls).bind fun ls => (te (sbM (oo lA)) ofSt ss).bind fun ss => (evM ⟨false, sc, ls, ss⟩).bind fun e => if e then some (⟨true, dX, [], []⟩, true) else some (⟨false, sc, ls, ss⟩, true)
def cnS (cv : Va → Option (Va × Bool)) (sc : bW) (ls : List (aT Va)) : List (aI Va) → List (aI Va) → Option (Vlu Va × Bool)
 | [], out => cnE sc ls out
 | c :: r, out => (canS cv c).bind fun p => if p.2.2 then if p.2.1 then (push out p.1).bind fun out => cnS cv sc ls r out else cnS cv sc ls r out else some (zV, false)
def cnL (cv : Va → Option (Va × Bool)) (sc : bW) (ss : List (aI Va)) : List (aT Va) → List (aT Va) → Option (Vlu Va × Bool)
 | [], out => (aN ss).bind fun _ => cnS cv sc out ss []
 | c :: r, out => (canL cv c).bind fun p => if p.2.2 then if p.2.1 then (push out p.1).bind fun out => cnL cv sc ss r out else cnL cv sc ss r out else some (zV, false)
abbrev CanF (cf : Vlu Va → Option (Vlu Va × Bool)) : Prop := ∀ {x r}, cf x = some r → aY Tryz.prog 73 [.agg (bM eVa x)] fun s => s = .tup [.agg (bM eVa r.1), .bool r.2]
def vT (cf : Vlu Va → Option (Vlu Va × Bool)) (x : Va) : Option (Va × Bool) := (cf x.v).bind fun a => (cf x.d).bind fun b => if a.2 then if b.2 then (oo lA b.1 a.1).bind fun c => some (.mk a.1 b.1, c) else some (.mk a.1 b.1, false) else some (.mk a.1 b.1, false)
theorem vS {cf : Vlu Va → Option (Vlu Va × Bool)} (h : CanF cf) : CanV (vT cf) := by
 intro x r hm
 refine ht aa Tryz.f52 ?_
 unfold vT at hm
 refine z ?_
 obtain ⟨v1, e1, hm⟩ := ae hm
 refine ct (h e1) (z ?_)
 obtain ⟨v2, e2, hm⟩ := ae hm
 refine ct (h e2) (z ?_)
 refine dg aa [0,0,3,0,8,24,56,120,248,248,1016,2040,2047,8191] [⟨12,0,0,[2]⟩] (z ?_)
 refine brk (fun h6 => z ?_) (fun h6 => z ?_)
 rw [if_pos h6] at hm
 refine brk (fun h7 => z ?_) (fun h7 => z ?_)
 rw [if_pos h7] at hm
 obtain ⟨v8, e8, hm⟩ := ae hm
 refine ct (wA e8) (z ?_)
 cases hm
 exact mst
 rw [if_neg (nt h7)] at hm
 cases hm
 exact mst
 rw [if_neg (nt h6)] at hm
 cases hm
 exact mst
def wo : Nat → Vlu Va → Option (Vlu Va × Bool)
 | 0, _ => none
 | n + 1, v => if v.any then some (v, true) else (copS v.sc).bind fun sc => (aN v.lists).bind fun _ => cnL (vT (wo n)) sc v.structs v.lists []
theorem canR_ok : ∀ {n : Nat}, CanF (wo n) := by
 intro n
 induction n with
 | zero => intro x r hm; cases hm
 | succ n ih =>
  intro v r hm
  refine ht aa Tryz.f73 ?_
  unfold wo at hm
  refine z ?_
  refine brk (fun h1 => z ?_) (fun h1 => z ?_)
  ·rw [if_pos h1] at hm
   cases hm
   exact mst
  ·rw [if_neg (nt h1)] at hm
   obtain ⟨v2, e2, hm⟩ := ae hm
   refine ct (copS_ok e2) (z ?_)
   obtain ⟨hg3, hm⟩ := aj hm
   refine b0 5 2 rfl ?_
   refine lg (α := Nat × List (aT Va) × Nat) aa (fun (iw, s1, ts1) => (cnL (vT (wo n)) (v2) (v.structs) (List.drop iw (v.lists)) s1 = some r, ⟨78, [(5, .own 4 ts1), (27, .int .i64 iw), (26, .int .i64 ↑v.lists.length), (25, .lst false (List.map (aO eVa) v.lists)), (4, .ptr 3 0), (3, .bool false), (2, .ptr 2 0), (1, .ptr 1 0)]⟩, ⟨[(4, .row 2 (s1.map (aO eVa)) ts1 false), (3, .cells [.bool false, .bool v2.null, .bool v2.fls, .bool v2.tru, aQ v2.ints, aQ v2.bK, aC v2.strs, .az, .az]), (2, .cells [.bool false, .bool false, .bool false, .bool false, .az, .az, .az, .az, .az]), (1, .cells (bM eVa v)), (0, aS)], 5, 0, [], []⟩, List.length (v.lists) - iw)) ⟨(0, _, (0)), hm⟩ ?_
   rintro ⟨i4, s1_4, ts1_4⟩ hq4
   dsimp only at hq4
   refine z ?_
   refine bkd (fun h5 => z ?_) (fun h5 => z ?_)
   ·obtain ⟨x5, ex5, ed5⟩ := au h5
    rw [ed5, cnL] at hq4
    refine z ?_
    refine a6 ex5 rfl (z ?_)
    obtain ⟨v6, e6, hq4⟩ := ae hq4
    refine ct (canL_ok (vS ih) e6) (z ?_)
    refine bkm (fun h7 => z ?_) (fun h7 => z ?_)
    ·rw [if_neg (nt h7)] at hq4
     cases hq4
     refine aR (z ?_)
     exact mt
    ·rw [if_pos h7] at hq4
     refine brk (fun h8 => z ?_) (fun h8 => z ?_)
     ·rw [if_pos h8] at hq4
      obtain ⟨hg9, hq4⟩ := aD hq4
      refine z ?_
      refine aH (v6.fst) rfl (z ?_)
      exact bk ⟨(i4 + 1, _, (ts1_4 + 1)), hq4⟩
     ·rw [if_neg (nt h8)] at hq4
      exact bk ⟨(i4 + 1, _, (ts1_4)), hq4⟩
   ·rw [av h5, cnL] at hq4
    obtain ⟨hg10, hq4⟩ := aj hq4
    refine a8 rfl rfl ?_
    refine b0 11 2 rfl ?_
    refine lg (α := Nat × List (aI Va) × Nat) aa (fun (iw, s1, ts1) => (cnS (vT (wo n)) (v2) (s1_4) (List.drop iw (v.structs)) s1 = some r, ⟨78, [(11, .own 5 ts1), (49, .int .i64 iw), (48, .int .i64 ↑v.structs.length), (47, .lst false (List.map (aF eVa) v.structs)), (5, .own 4 ts1_4), (4, .ptr 3 0), (3, .bool false), (2, .ptr 2 0)]⟩, ⟨[(5, .row 2 (s1.map (aF eVa)) ts1 false), (4, .row 2 (List.map (aO eVa) s1_4) ts1_4 false), (3, .cells [.bool false, .bool v2.null, .bool v2.fls, .bool v2.tru, aQ v2.ints, aQ v2.bK, aC v2.strs, .az, .az]), (2, .cells [.bool false, .bool false, .bool false, .bool false, .az, .az, .az, .az, .az]), (1, .cells (bM eVa v)), (0, aS)], 6, 0, [], []⟩, List.length (v.structs) - iw)) ⟨(0, _, (0)), hq4⟩ ?_
    rintro ⟨i11, s1_11, ts1_11⟩ hq11
    dsimp only at hq11
    refine z ?_
    refine bkd (fun h12 => z ?_) (fun h12 => z ?_)
    ·obtain ⟨x12, ex12, ed12⟩ := au h12
     rw [ed12, cnS] at hq11
     refine z ?_
     refine a6 ex12 rfl (z ?_)
     obtain ⟨v13, e13, hq11⟩ := ae hq11
     refine ct (canS_ok (vS ih) e13) (z ?_)
     refine bkm (fun h14 => z ?_) (fun h14 => z ?_)
     ·rw [if_neg (nt h14)] at hq11
      cases hq11
      refine aR (z ?_)
      exact mt
     ·rw [if_pos h14] at hq11
      refine brk (fun h15 => z ?_) (fun h15 => z ?_)
      ·rw [if_pos h15] at hq11
       obtain ⟨hg16, hq11⟩ := aD hq11
       refine z ?_
       refine aH (v13.fst) rfl (z ?_)
       exact bk ⟨(i11 + 1, _, (ts1_11 + 1)), hq11⟩
      ·rw [if_neg (nt h15)] at hq11
       exact bk ⟨(i11 + 1, _, (ts1_11)), hq11⟩
    ·rw [av h12, cnS] at hq11
     unfold cnE at hq11
     refine z ?_
     obtain ⟨v17, e17, hq11⟩ := ae hq11
     refine bq (mxL_ok (lbM_ok wA) ofL_ok e17) (z ?_)
     obtain ⟨v18, e18, hq11⟩ := ae hq11
     refine bq (mxS_ok (sbM_ok wA) ofSt_ok e18) (z ?_)
     obtain ⟨v19, e19, hq11⟩ := ae hq11
     refine ct (evM_ok e19) (z ?_)
     refine brk (fun h20 => z ?_) (fun h20 => z ?_)
     ·rw [if_pos h20] at hq11
      cases hq11
      refine aR (z ?_)
      exact mt
     ·rw [if_neg (nt h20)] at hq11
      cases hq11
      exact mst
def q9 (x : Va) : Option (Va × Int) := (nB x).bind fun ok => if ok then (vT (wo lA) x).bind fun p => if p.2 then some (p.1, 0) else some (zVa, 11) else some (zVa, 11)
theorem q8 {x : Va} {r : Va × Int} (hm : q9 x = some r) : aY Tryz.prog 33 [.agg (uVa x)] fun s => s = .tup [.agg (uVa r.1), .int .i64 r.2] := by
 refine ht aa Tryz.f33 ?_
 unfold q9 at hm
 refine z ?_
 obtain ⟨v1, e1, hm⟩ := ae hm
 refine ct (tJ e1) (z ?_)
 refine bkm (fun h2 => z ?_) (fun h2 => z ?_)
 rw [if_neg (nt h2)] at hm
 cases hm
 refine aR (z ?_)
 exact mt
 rw [if_pos h2] at hm
 obtain ⟨v3, e3, hm⟩ := ae hm
 refine ct ((vS canR_ok) e3) (z ?_)
 refine bkm (fun h4 => z ?_) (fun h4 => z ?_)
 rw [if_neg (nt h4)] at hm
 cases hm
 refine aR (z ?_)
 exact mt
 rw [if_pos h4] at hm
 cases hm
 exact mst
def nu (x : Va) : Option Bool := (q9 x).bind fun p => if p.2 = 0 then oC p.1 x else some false
theorem tE {x : Va} {r : Bool} (hm : nu x = some r) : aY Tryz.prog 22 [.agg (uVa x)] fun s => s = .bool r := by
 refine ht aa Tryz.f22 ?_
 unfold nu at hm
 refine z ?_
 obtain ⟨v1, e1, hm⟩ := ae hm
 refine ct (q8 e1) (z ?_)
 refine bkd (fun h2 => z ?_) (fun h2 => z ?_)
 rw [if_pos h2] at hm
 replace hm := aG hm
 obtain ⟨v3, e3, hm⟩ := ae hm
 refine ce (qA e3) (z ?_)
 cases hm
 exact mst
 rw [if_neg h2] at hm
 cases hm
 exact mst
end Go.Proofs.YtmjddpeookapaaaGreatDoor
