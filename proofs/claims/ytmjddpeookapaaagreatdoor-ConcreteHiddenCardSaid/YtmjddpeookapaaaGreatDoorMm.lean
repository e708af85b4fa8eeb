/- For ConcreteHidden: functions of the program, walked beside Lean functions that say what they compute. -/
import Derived.Test.YtmjddpeookapaaaGreatDoorEn
import Derived.KernelRfl
import Derived.Test.YtmjddpeookapaaaGreatDoorMl
set_option linter.unusedVariables false
set_option linter.unusedSimpArgs false
set_option linter.unusedSectionVars false
namespace Go.Proofs.YtmjddpeookapaaaGreatDoor
open Sv
set_option maxRecDepth 100000
set_option maxHeartbeats 2000000
abbrev lenH {α : Type} (l : List α) : Option Unit := grd (l.length < 9223372036854775808)
def lngL (l : List Stt) : Nat → Int → Option Bool
 | 0, _ => none
 | n + 1, i => (lenH l).bind fun _ => if i < (l.length : Int) then (atI l i).bind fun x => (lenH x.aL).bind fun _ => if (x.aL.length : Int) > 12 then some false else lngL l n (i + 1) else some (decide ((l.length : Int) ≤ 8))
def lngR (l : List Stt) : Option Bool := lngL l (l.length + 1) 0
theorem lngR_ok {l : List Stt} {r : Bool} (hm : lngR l = some r) : Has Tryz.prog 29 [.agg [aC l]] fun s => s = .bool r := by
 refine hs aa Tryz.f29 ?_
 unfold lngR at hm
 refine z ?_
 refine lg (α := Nat × Int) aa (fun (nw, s1) => (lngL (l) nw s1 = some r, ⟨23, [(3, .int .i64 s1), (2, .bool false), (1, .ptr 0 0)]⟩, ⟨[(0, .cells [aC l])], 1, 0, [], []⟩, nw)) ⟨(_, _), hm⟩ ?_
 rintro ⟨n1, s1_1⟩ hq1
 dsimp only at hq1
 rcases n1 with _ | n1
 (unfold lngL at hq1; cases hq1)
 unfold lngL at hq1
 refine z ?_
 obtain ⟨hg2, hq1⟩ := aj hq1
 refine bkd (fun h3 => z ?_) (fun h3 => z ?_)
 rw [if_pos h3] at hq1
 obtain ⟨j4, x4, en4, ex4, hq1⟩ := aB hq1
 refine bf en4 ex4 rfl (z ?_)
 obtain ⟨hg5, hq1⟩ := aj hq1
 refine bkd (fun h6 => z ?_) (fun h6 => z ?_)
 rw [if_pos h6] at hq1
 cases hq1
 exact fc
 rw [if_neg h6] at hq1
 exact bk ⟨(n1, _), hq1⟩
 rw [if_neg h3] at hq1
 cases hq1
 exact fc
def sclR (s : bW) : Option Bool := (lenH s.ints).bind fun _ => if (s.ints.length : Int) ≤ 5 then (lenH s.bK).bind fun _ => if (s.bK.length : Int) ≤ 5 then lngR s.strs else some false else some false
theorem sclR_ok {s : bW} {r : Bool} (hm : sclR s = some r) : Has Tryz.prog 28 [.agg (bS s)] fun v => v = .bool r := by
 refine hs aa Tryz.f28 ?_
 unfold sclR at hm
 refine z ?_
 obtain ⟨hg1, hm⟩ := aj hm
 refine bkd (fun h2 => z ?_) (fun h2 => z ?_)
 rw [if_pos h2] at hm
 obtain ⟨hg3, hm⟩ := aj hm
 refine bkd (fun h4 => z ?_) (fun h4 => z ?_)
 rw [if_pos h4] at hm
 replace hm := aG hm
 obtain ⟨v5, e5, hm⟩ := ae hm
 refine ce (lngR_ok e5) (z ?_)
 cases hm
 exact fc
 rw [if_neg h4] at hm
 cases hm
 exact fc
 rw [if_neg h2] at hm
 cases hm
 exact fc
/-! measure -/
abbrev MeaV (rec : Vlu Va → Int → Int → Option Int) : Prop := ∀ {v levels most r}, rec v levels most = some r → Has Tryz.prog 19 [.agg (bM eVa v), .int .i64 levels, .int .i64 most] fun s => s = .int .i64 r
def maL (rec : Vlu Va → Int → Int → Option Int) (l : List Va) (levels most : Int) : Nat → Int → Int → Option Int
 | 0, _, _ => none
 | f + 1, i, n => (aN l).bind fun _ => if i < (l.length : Int) then if n ≤ most then (atI l i).bind fun x => (cX (most - n)).bind fun _ => (rec x.v levels (most - n)).bind fun k => (cX (n + k)).bind fun _ =>
   if n + k ≤ most then (atI l i).bind fun x => (cX (most - (n + k))).bind fun _ => (rec x.d levels (most - (n + k))).bind fun j => (cX (n + k + j)).bind fun _ => maL rec l levels most f (i + 1) (n + k + j)
   else maL rec l levels most f (i + 1) (n + k)
  else some n else some n
def maM (rec : Vlu Va → Int → Int → Option Int) (l : List Va) (levels most : Int) : Option Int := maL rec l levels most (l.length + 1) 0 0
theorem maM_ok {rec : Vlu Va → Int → Int → Option Int} (h : MeaV rec) {l : List Va} {levels most r : Int} (hm : maM rec l levels most = some r) : Has Tryz.prog 9 [.lst false (l.map eVa), .int .i64 levels, .int .i64 most] fun s => s = .int .i64 r := by
 refine hs aa Tryz.f9 ?_
 unfold maM at hm
 refine z ?_
 refine lg (α := Nat × Int × Int) aa (fun (nw, s1, s2) => (maL (rec) (l) (levels) (most) nw s1 s2 = some r, ⟨48, [(8, .int .i64 s1), (7, .int .i64 s2), (6, .int .i64 0), (0, .lst false (List.map eVa l)), (1, .int .i64 levels), (2, .int .i64 most)]⟩, ⟨[], 0, 0, [], []⟩, nw)) ⟨(_, _, _), hm⟩ ?_
 rintro ⟨n1, s1_1, s2_1⟩ hq1
 dsimp only at hq1
 rcases n1 with _ | n1
 (unfold maL at hq1; cases hq1)
 unfold maL at hq1
 refine z ?_
 obtain ⟨hg2, hq1⟩ := aj hq1
 refine bkd (fun h3 => z ?_) (fun h3 => z ?_)
 rw [if_pos h3] at hq1
 refine bkd (fun h4 => z ?_) (fun h4 => z ?_)
 rw [if_pos h4] at hq1
 obtain ⟨j5, x5, en5, ex5, hq1⟩ := aB hq1
 refine bU (bX _) en5 ex5 rfl (z ?_)
 obtain ⟨hg6, hq1⟩ := aj hq1
 refine z ?_
 obtain ⟨v8, e8, hq1⟩ := ae hq1
 refine ce (h e8) (z ?_)
 obtain ⟨hg9, hq1⟩ := aj hq1
 refine z ?_
 refine bkd (fun h10 => z ?_) (fun h10 => z ?_)
 rw [if_pos h10] at hq1
 obtain ⟨j11, x11, en11, ex11, hq1⟩ := aB hq1
 refine bU (bX _) en11 ex11 rfl (z ?_)
 obtain ⟨hg12, hq1⟩ := aj hq1
 refine z ?_
 obtain ⟨v14, e14, hq1⟩ := ae hq1
 refine ce (h e14) (z ?_)
 obtain ⟨hg15, hq1⟩ := aj hq1
 refine z ?_
 exact bk ⟨(n1, _, _), hq1⟩
 rw [if_neg h10] at hq1
 exact bk ⟨(n1, _, _), hq1⟩
 rw [if_neg h4] at hq1
 cases hq1
 exact fc
 rw [if_neg h3] at hq1
 cases hq1
 exact fc
def fx (most : Int) : Option Int := (cX (most + 1)).bind fun _ => some (most + 1)
def meF (c : aI Va) (most : Int) : Nat → Int → List Va → Option (Ctl Int (List Va))
 | 0, _, _ => none
 | f + 1, k, l => (aN c.fields).bind fun _ => if k < (c.fields.length : Int) then (atI c.fields k).bind fun x => (lenH x.label).bind fun _ => if (x.label.length : Int) > 60 then (fx most).bind fun r => some (.ret r)
   else (atI c.fields k).bind fun x => (push l x.val).bind fun l => meF c most f (k + 1) l else some (.nxt l)
def meK (c : aI Va) (most : Int) : Nat → Int → List Va → Option (Ctl Int (List Va))
 | 0, _, _ => none
 | f + 1, k, l => (aN c.aA).bind fun _ => if k < (c.aA.length : Int) then (atI c.aA k).bind fun x => (lngR x.set).bind fun ok => if ok then
   (atI c.aA k).bind fun x => (push l x.val).bind fun l => meK c most f (k + 1) l else (fx most).bind fun r => some (.ret r) else some (.nxt l)
def meS2 (rec : List Va → Int → Int → Option Int) (c : aI Va) (levels most n : Int) (l : List Va) : Option Int :=
 (cX (levels - 1)).bind fun _ => (cX (most - n)).bind fun _ => (rec l (levels - 1) (most - n)).bind fun k => (cX (n + k)).bind fun _ => some (n + k)
def meS (rec : List Va → Int → Int → Option Int) (ss : List (aI Va)) (levels most : Int) : Nat → Int → Int → Option Int
 | 0, _, _ => none
 | f + 1, i, n => (aN ss).bind fun _ => if i < (ss.length : Int) then if n ≤ most then (atI ss i).bind fun c => (lenH c.fields).bind fun _ => if (c.fields.length : Int) > 4 then fx most else (lenH c.aA).bind fun _ => if (c.aA.length : Int) > 4 then fx most else
   (meF c most (c.fields.length + 1) 0 []).bind fun
   | .ret r => some r
   | .nxt l => (meK c most (c.aA.length + 1) 0 l).bind fun
    | .ret r => some r
    | .nxt l => (meS2 rec c levels most n l).bind fun n => meS rec ss levels most f (i + 1) n
  else some n else some n
def meL (rec : List Va → Int → Int → Option Int) (v : Vlu Va) (levels most : Int) : Nat → Int → Int → Option Int
 | 0, _, _ => none
 | f + 1, i, n => (aN v.lists).bind fun _ => if i < (v.lists.length : Int) then (atI v.lists i).bind fun c => (lenH c.items).bind fun _ => if (c.items.length : Int) > 3 then fx most else
   (atI v.lists i).bind fun c => (lenH c.rest).bind fun _ => if (c.rest.length : Int) > 2 then fx most else
   (atI v.lists i).bind fun c => (jF [] c.items).bind fun _ => (atI v.lists i).bind fun c2 => (jF c.items c2.rest).bind fun l =>
   (cX (levels - 1)).bind fun _ => (cX (most - n)).bind fun _ => (rec l (levels - 1) (most - n)).bind fun k => (cX (n + k)).bind fun _ => meL rec v levels most f (i + 1) (n + k)
  else meS rec v.structs levels most (v.structs.length + 1) 0 n
def meV (rec : List Va → Int → Int → Option Int) (v : Vlu Va) (levels most : Int) : Option Int :=
 if levels < 1 then fx most else if most < 1 then fx most else (sclR v.sc).bind fun ok => if ok then (lenH v.lists).bind fun _ => if (v.lists.length : Int) > 3 then fx most else (lenH v.structs).bind fun _ => if (v.structs.length : Int) > 3 then fx most else
  meL rec v levels most (v.lists.length + 1) 0 1
 else fx most
abbrev MalV (rec : List Va → Int → Int → Option Int) : Prop := ∀ {l levels most r}, rec l levels most = some r → Has Tryz.prog 9 [.lst false (l.map eVa), .int .i64 levels, .int .i64 most] fun s => s = .int .i64 r
theorem meV_ok {rec : List Va → Int → Int → Option Int} (h : MalV rec) : MeaV (meV rec) := by
 intro v levels most r hm
 refine hs aa Tryz.f19 ?_
 unfold meV at hm
 refine z ?_
 refine bkd (fun h1 => z ?_) (fun h1 => z ?_)
 rw [if_pos h1] at hm
 unfold fx at hm
 refine z ?_
 obtain ⟨hg2, hm⟩ := aj hm
 refine z ?_
 cases hm
 exact fc
 rw [if_neg h1] at hm
 refine bkd (fun h3 => z ?_) (fun h3 => z ?_)
 rw [if_pos h3] at hm
 unfold fx at hm
 refine z ?_
 obtain ⟨hg4, hm⟩ := aj hm
 refine z ?_
 cases hm
 exact fc
 rw [if_neg h3] at hm
 obtain ⟨v5, e5, hm⟩ := ae hm
 refine ce (sclR_ok e5) (z ?_)
 refine bkm (fun h6 => z ?_) (fun h6 => z ?_)
 rw [if_neg (nt h6)] at hm
 unfold fx at hm
 refine z ?_
 obtain ⟨hg7, hm⟩ := aj hm
 refine z ?_
 cases hm
 exact fc
 rw [if_pos h6] at hm
 obtain ⟨hg8, hm⟩ := aj hm
 refine bkd (fun h9 => z ?_) (fun h9 => z ?_)
 rw [if_pos h9] at hm
 unfold fx at hm
 refine z ?_
 obtain ⟨hg10, hm⟩ := aj hm
 refine z ?_
 cases hm
 exact fc
 rw [if_neg h9] at hm
 obtain ⟨hg11, hm⟩ := aj hm
 refine bkd (fun h12 => z ?_) (fun h12 => z ?_)
 rw [if_pos h12] at hm
 unfold fx at hm
 refine z ?_
 obtain ⟨hg13, hm⟩ := aj hm
 refine z ?_
 cases hm
 exact fc
 rw [if_neg h12] at hm
 refine lg (α := Nat × Int × Int) aa (fun (nw, s1, s2) => (meL (rec) (v) (levels) (most) nw s1 s2 = some r, ⟨183, [(8, .int .i64 s1), (7, .int .i64 s2), (6, .int .i64 0), (3, .ptr 0 0), (1, .int .i64 levels), (2, .int .i64 most)]⟩, ⟨[(0, .cells (bM eVa v))], 1, 0, [], []⟩, nw)) ⟨(_, _, _), hm⟩ ?_
 rintro ⟨n14, s1_14, s2_14⟩ hq14
 dsimp only at hq14
 rcases n14 with _ | n14
 (unfold meL at hq14; cases hq14)
 unfold meL at hq14
 refine z ?_
 obtain ⟨hg15, hq14⟩ := aj hq14
 refine bkd (fun h16 => z ?_) (fun h16 => z ?_)
 rw [if_pos h16] at hq14
 obtain ⟨j17, x17, en17, ex17, hq14⟩ := aB hq14
 refine bf en17 ex17 rfl (z ?_)
 obtain ⟨hg18, hq14⟩ := aj hq14
 refine bkd (fun h19 => z ?_) (fun h19 => z ?_)
 rw [if_pos h19] at hq14
 unfold fx at hq14
 refine z ?_
 obtain ⟨hg20, hq14⟩ := aj hq14
 refine z ?_
 cases hq14
 exact fc
 rw [if_neg h19] at hq14
 obtain ⟨j21, x21, en21, ex21, hq14⟩ := aB hq14
 refine bf en21 ex21 rfl (z ?_)
 obtain ⟨hg22, hq14⟩ := aj hq14
 refine bkd (fun h23 => z ?_) (fun h23 => z ?_)
 rw [if_pos h23] at hq14
 unfold fx at hq14
 refine z ?_
 obtain ⟨hg24, hq14⟩ := aj hq14
 refine z ?_
 cases hq14
 exact fc
 rw [if_neg h23] at hq14
 refine dg aa [0,0,2,0,14,30,62,127,0,256,0,1792,3840,7936,16383,32767] [] (z ?_)
 obtain ⟨j25, x25, en25, ex25, hq14⟩ := aB hq14
 refine bf en25 ex25 rfl (z ?_)
 obtain ⟨hg26, hq14⟩ := dN hq14
 refine z ?_
 refine sA (z ?_)
 obtain ⟨j27, x27, en27, ex27, hq14⟩ := aB hq14
 refine bf en27 ex27 rfl (z ?_)
 obtain ⟨hg28, hq14⟩ := dN hq14
 refine z ?_
 refine hM (z ?_)
 obtain ⟨hg29, hq14⟩ := aj hq14
 obtain ⟨hg30, hq14⟩ := aj hq14
 refine z ?_
 obtain ⟨v32, e32, hq14⟩ := ae hq14
 refine bH (h e32) rfl (z ?_)
 obtain ⟨hg33, hq14⟩ := aj hq14
 refine z ?_
 exact bk ⟨(n14, _, _), hq14⟩
 rw [if_neg h16] at hq14
 refine a8 rfl rfl ?_
 refine lg (α := Nat × Int × Int) aa (fun (nw, s1, s2) => (meS (rec) (v.structs) (levels) (most) nw s1 s2 = some r, ⟨183, [(10, .int .i64 s1), (7, .int .i64 s2), (6, .int .i64 0), (3, .ptr 0 0), (1, .int .i64 levels), (2, .int .i64 most)]⟩, ⟨[(0, .cells (bM eVa v))], 1, 0, [], []⟩, nw)) ⟨(_, _, _), hq14⟩ ?_
 rintro ⟨n34, s1_34, s2_34⟩ hq34
 dsimp only at hq34
 rcases n34 with _ | n34
 (unfold meS at hq34; cases hq34)
 unfold meS at hq34
 refine z ?_
 obtain ⟨hg35, hq34⟩ := aj hq34
 refine bkd (fun h36 => z ?_) (fun h36 => z ?_)
 rw [if_pos h36] at hq34
 refine bkd (fun h37 => z ?_) (fun h37 => z ?_)
 rw [if_pos h37] at hq34
 obtain ⟨j38, x38, en38, ex38, hq34⟩ := aB hq34
 refine bf en38 ex38 rfl (z ?_)
 obtain ⟨hg39, hq34⟩ := aj hq34
 refine bkd (fun h40 => z ?_) (fun h40 => z ?_)
 rw [if_pos h40] at hq34
 unfold fx at hq34
 refine z ?_
 obtain ⟨hg41, hq34⟩ := aj hq34
 refine z ?_
 cases hq34
 exact fc
 rw [if_neg h40] at hq34
 obtain ⟨hg42, hq34⟩ := aj hq34
 refine bkd (fun h43 => z ?_) (fun h43 => z ?_)
 rw [if_pos h43] at hq34
 unfold fx at hq34
 refine z ?_
 obtain ⟨hg44, hq34⟩ := aj hq34
 refine z ?_
 cases hq34
 exact fc
 rw [if_neg h43] at hq34
 obtain ⟨v45, hv45, hq34⟩ := ae hq34
 refine b0 12 18 rfl ?_
 refine lg (α := Nat × Int × List Va × Nat) aa (fun (nw, s1, s2, ts2) => (meF (x38) (most) nw s1 s2 = some v45, ⟨183, [(12, .own 2 ts2), (13, .int .i64 s1), (11, .ptr 1 0), (10, .int .i64 s1_34), (7, .int .i64 s2_34), (6, .int .i64 0), (3, .ptr 0 0), (1, .int .i64 levels), (2, .int .i64 most)]⟩, ⟨[(2, .row 18 (s2.map eVa) ts2 false), (1, .cells [.lst false (List.map (cC eVa) x38.fields), .lst false (List.map (cQ eVa) x38.aA)]), (0, .cells (bM eVa v))], 3, 0, [], []⟩, nw)) ⟨(_, _, _, (0)), hv45⟩ ?_
 rintro ⟨n45, s1_45, s2_45, ts2_45⟩ hq45
 dsimp only at hq45
 rcases n45 with _ | n45
 (unfold meF at hq45; cases hq45)
 unfold meF at hq45
 refine z ?_
 obtain ⟨hg46, hq45⟩ := aj hq45
 refine bkd (fun h47 => z ?_) (fun h47 => z ?_)
 rw [if_pos h47] at hq45
 obtain ⟨j48, x48, en48, ex48, hq45⟩ := aB hq45
 refine bU (cq _) en48 ex48 rfl (z ?_)
 obtain ⟨hg49, hq45⟩ := aj hq45
 refine bkd (fun h50 => z ?_) (fun h50 => z ?_)
 rw [if_pos h50] at hq45
 unfold fx at hq45
 rw [Option.bind_assoc] at hq45
 refine z ?_
 obtain ⟨hg51, hq45⟩ := aj hq45
 dsimp only [Option.bind_some] at hq45
 refine ⟨⟨by omega, by omega⟩, ?_⟩
 cases hq45
 dsimp only at hq34
 refine z ?_
 cases hq34
 exact fc
 rw [if_neg h50] at hq45
 obtain ⟨j52, x52, en52, ex52, hq45⟩ := aB hq45
 refine bU (cq _) en52 ex52 rfl (z ?_)
 obtain ⟨hg53, hq45⟩ := aD hq45
 refine z ?_
 refine aH (x52.val) (bX _) (z ?_)
 exact bk ⟨(n45, _, _, (ts2_45 + 1)), hq45⟩
 rw [if_neg h47] at hq45
 cases hq45
 dsimp only at hq34
 refine z ?_
 refine a8 rfl rfl ?_
 obtain ⟨v54, hv54, hq34⟩ := ae hq34
 refine lg (α := Nat × Int × List Va × Nat) aa (fun (nw, s1, s2, ts2) => (meK (x38) (most) nw s1 s2 = some v54, ⟨183, [(14, .int .i64 s1), (12, .own 2 ts2), (11, .ptr 1 0), (10, .int .i64 s1_34), (7, .int .i64 s2_34), (6, .int .i64 0), (3, .ptr 0 0), (1, .int .i64 levels), (2, .int .i64 most)]⟩, ⟨[(2, .row 18 (s2.map eVa) ts2 false), (1, .cells [.lst false (List.map (cC eVa) x38.fields), .lst false (List.map (cQ eVa) x38.aA)]), (0, .cells (bM eVa v))], 3, 0, [], []⟩, nw)) ⟨(_, _, _, (ts2_45)), hv54⟩ ?_
 rintro ⟨n54, s1_54, s2_54, ts2_54⟩ hq54
 dsimp only at hq54
 rcases n54 with _ | n54
 (unfold meK at hq54; cases hq54)
 unfold meK at hq54
 refine z ?_
 obtain ⟨hg55, hq54⟩ := aj hq54
 refine bkd (fun h56 => z ?_) (fun h56 => z ?_)
 rw [if_pos h56] at hq54
 obtain ⟨j57, x57, en57, ex57, hq54⟩ := aB hq54
 refine bU (bY _) en57 ex57 rfl (z ?_)
 obtain ⟨v58, e58, hq54⟩ := ae hq54
 refine ce (lngR_ok e58) (z ?_)
 refine bkm (fun h59 => z ?_) (fun h59 => z ?_)
 rw [if_neg (nt h59)] at hq54
 unfold fx at hq54
 rw [Option.bind_assoc] at hq54
 refine z ?_
 obtain ⟨hg60, hq54⟩ := aj hq54
 dsimp only [Option.bind_some] at hq54
 refine ⟨⟨by omega, by omega⟩, ?_⟩
 cases hq54
 dsimp only at hq34
 refine z ?_
 cases hq34
 exact fc
 rw [if_pos h59] at hq54
 obtain ⟨j61, x61, en61, ex61, hq54⟩ := aB hq54
 refine bU (bY _) en61 ex61 rfl (z ?_)
 obtain ⟨hg62, hq54⟩ := aD hq54
 refine z ?_
 refine aH (x61.val) (bX _) (z ?_)
 exact bk ⟨(n54, _, _, (ts2_54 + 1)), hq54⟩
 rw [if_neg h56] at hq54
 cases hq54
 dsimp only at hq34
 unfold meS2 at hq34
 rw [Option.bind_assoc] at hq34
 refine z ?_
 obtain ⟨hg63, hq34⟩ := aj hq34
 rw [Option.bind_assoc] at hq34
 obtain ⟨hg64, hq34⟩ := aj hq34
 rw [Option.bind_assoc] at hq34
 refine z ?_
 obtain ⟨v66, e66, hq34⟩ := ae hq34
 refine bH (h e66) rfl (z ?_)
 rw [Option.bind_assoc] at hq34
 refine z ?_
 obtain ⟨hg67, hq34⟩ := aj hq34
 dsimp only [Option.bind_some] at hq34
 refine z ?_
 exact bk ⟨(n34, _, _), hq34⟩
 rw [if_neg h37] at hq34
 cases hq34
 exact fc
 rw [if_neg h36] at hq34
 cases hq34
 exact fc
def meR : Nat → Vlu Va → Int → Int → Option Int
 | 0, _, _, _ => none
 | n + 1, v, levels, most => meV (fun l levels most => maM (meR n) l levels most) v levels most
theorem meR_ok : ∀ {n : Nat}, MeaV (meR n) := by
 intro n
 induction n with
 | zero => intro v levels most r hm; cases hm
 | succ n ih => intro v levels most r hm; exact meV_ok (fun hm => maM_ok ih hm) hm
def maR (l : List Va) (levels most : Int) : Option Int := maM (meR 5) l levels most
theorem maR_ok {l : List Va} {levels most r : Int} (hm : maR l levels most = some r) : Has Tryz.prog 9 [.lst false (l.map eVa), .int .i64 levels, .int .i64 most] fun s => s = .int .i64 r := maM_ok meR_ok hm
theorem maR1_ok {x : Va} {levels most r : Int} (hm : maR [x] levels most = some r) : Has Tryz.prog 9 [.lst false [uVa x], .int .i64 levels, .int .i64 most] fun s => s = .int .i64 r := by
 have h := maR_ok hm
 rwa [show List.map eVa [x] = [uVa x] from by rw [List.map, List.map, bX]] at h
def qn (x : Va) : Option Bool := (maR [x] 3 60).bind fun n => some (decide (n ≤ 60))
theorem smallR_ok {x : Va} {r : Bool} (hm : qn x = some r) : Has Tryz.prog 4 [.agg (uVa x)] fun s => s = .bool r := by
 refine hs aa Tryz.f4 ?_
 unfold qn at hm
 refine z ?_
 obtain ⟨v1, e1, hm⟩ := ae hm
 refine bH (maR1_ok e1) rfl (z ?_)
 cases hm
 exact fc
def hidR (w : List UInt8) : Option Bool := if w = [] then some false else (atI w 0).bind fun b => if (b.toNat : Int) = 95 then some true else (atI w 0).bind fun b => some (decide ((b.toNat : Int) = 35))
theorem hidR_ok {w : List UInt8} {r : Bool} (hm : hidR w = some r) : Has Tryz.prog 18 [.str w] fun s => s = .bool r := by
 refine hs aa Tryz.f18 ?_
 unfold hidR at hm
 refine z ?_
 refine bkn (fun h1 => z ?_) (fun h1 => z ?_)
 rw [if_neg h1] at hm
 obtain ⟨j2, x2, en2, ex2, hm⟩ := aB hm
 refine ⟨_, _, en2, ex2, ?_⟩
 refine z ?_
 refine bkd (fun h3 => z ?_) (fun h3 => z ?_)
 rw [if_pos h3] at hm
 cases hm
 exact fc
 rw [if_neg h3] at hm
 obtain ⟨j4, x4, en4, ex4, hm⟩ := aB hm
 refine ⟨_, _, en4, ex4, ?_⟩
 refine z ?_
 cases hm
 exact fc
 rw [if_pos h1] at hm
 cases hm
 exact fc
def sdM (rec : Dat → Dat → Option Bool) (a b : dH Dat) : Nat → Int → Option Bool
 | 0, _ => none
 | f + 1, i => (aN a.members).bind fun _ => if i < (a.members.length : Int) then (atI a.members i).bind fun x => (atI b.members i).bind fun y => if x.label = y.label then (atI a.members i).bind fun x => (atI b.members i).bind fun y => (rec x.data y.data).bind fun ok => if ok then sdM rec a b f (i + 1) else some false else some false else some true
def sdI (rec : Dat → Dat → Option Bool) (a b : dH Dat) : Nat → Int → Option Bool
 | 0, _ => none
 | f + 1, i => (aN a.items).bind fun _ => if i < (a.items.length : Int) then (atI a.items i).bind fun x => (atI b.items i).bind fun y => (rec x y).bind fun ok => if ok then sdI rec a b f (i + 1) else some false else sdM rec a b (a.members.length + 1) 0
def sdC (rec : Dat → Dat → Option Bool) (a b : dH Dat) : Option Bool := if a.kind = b.kind then if a.num = b.num then if a.str = b.str then (aN a.items).bind fun _ => (aN b.items).bind fun _ => if (a.items.length : Int) = b.items.length then
  (aN a.members).bind fun _ => (aN b.members).bind fun _ => if (a.members.length : Int) = b.members.length then sdI rec a b (a.items.length + 1) 0 else some false else some false else some false else some false else some false
def sdR : Nat → Dat → Dat → Option Bool
 | 0, _, _ => none
 | n + 1, a, b => sdC (sdR n) a.c b.c
theorem sdR_ok : ∀ {n : Nat} {a b : Dat} {r : Bool} (hm : sdR n a b = some r), Has Tryz.prog 7 [.agg (dw a), .agg (dw b)] fun s => s = .bool r := by
 intro n
 induction n with
 | zero => intro a b r hm; cases hm
 | succ n ih =>
  intro a b r hm
  refine hs aa Tryz.f7 ?_
  unfold sdR sdC at hm
  refine z ?_
  refine bkn (fun h1 => z ?_) (fun h1 => z ?_)
  ·rw [if_neg h1] at hm
   cases hm
   exact fc
  ·rw [if_pos h1] at hm
   refine bkn (fun h2 => z ?_) (fun h2 => z ?_)
   ·rw [if_neg h2] at hm
    cases hm
    exact fc
   ·rw [if_pos h2] at hm
    refine bkn (fun h3 => z ?_) (fun h3 => z ?_)
    ·rw [if_neg h3] at hm
     cases hm
     exact fc
    ·rw [if_pos h3] at hm
     obtain ⟨hg4, hm⟩ := aj hm
     obtain ⟨hg5, hm⟩ := aj hm
     refine bkn (fun h6 => z ?_) (fun h6 => z ?_)
     ·rw [if_neg h6] at hm
      cases hm
      exact fc
     ·rw [if_pos h6] at hm
      obtain ⟨hg7, hm⟩ := aj hm
      obtain ⟨hg8, hm⟩ := aj hm
      refine bkn (fun h9 => z ?_) (fun h9 => z ?_)
      ·rw [if_neg h9] at hm
       cases hm
       exact fc
      ·rw [if_pos h9] at hm
       refine lg (α := Nat × Int) aa (fun (nw, s1) => (sdI (sdR n) (a.c) (b.c) nw s1 = some r, ⟨99, [(5, .int .i64 s1), (4, .bool false), (3, .ptr 1 0), (2, .ptr 0 0)]⟩, ⟨[(1, .cells (dw b)), (0, .cells (dw a))], 2, 0, [], []⟩, nw)) ⟨(_, _), hm⟩ ?_
       rintro ⟨n10, s1_10⟩ hq10
       dsimp only at hq10
       rcases n10 with _ | n10
       ·(unfold sdI at hq10; cases hq10)
       unfold sdI at hq10
       refine z ?_
       obtain ⟨hg11, hq10⟩ := aj hq10
       refine bkd (fun h12 => z ?_) (fun h12 => z ?_)
       ·rw [if_pos h12] at hq10
        refine dg aa [0,1,0,7,15,0,32,0,224,480,1023,2047] [] (z ?_)
        obtain ⟨j13, x13, en13, ex13, hq10⟩ := aB hq10
        refine bU (dV _) en13 ex13 rfl (z ?_)
        obtain ⟨j14, x14, en14, ex14, hq10⟩ := aB hq10
        refine bU (dV _) en14 ex14 rfl (z ?_)
        obtain ⟨v15, e15, hq10⟩ := ae hq10
        refine ce (ih e15) (z ?_)
        refine bkm (fun h16 => z ?_) (fun h16 => z ?_)
        ·rw [if_neg (nt h16)] at hq10
         cases hq10
         exact fc
        ·rw [if_pos h16] at hq10
         exact bk ⟨(n10, _), hq10⟩
       ·rw [if_neg h12] at hq10
        refine a8 rfl rfl ?_
        refine lg (α := Nat × Int) aa (fun (nw, s1) => (sdM (sdR n) (a.c) (b.c) nw s1 = some r, ⟨99, [(6, .int .i64 s1), (4, .bool false), (3, .ptr 1 0), (2, .ptr 0 0)]⟩, ⟨[(1, .cells (dw b)), (0, .cells (dw a))], 2, 0, [], []⟩, nw)) ⟨(_, _), hq10⟩ ?_
        rintro ⟨n17, s1_17⟩ hq17
        dsimp only at hq17
        rcases n17 with _ | n17
        ·(unfold sdM at hq17; cases hq17)
        unfold sdM at hq17
        refine z ?_
        obtain ⟨hg18, hq17⟩ := aj hq17
        refine bkd (fun h19 => z ?_) (fun h19 => z ?_)
        ·rw [if_pos h19] at hq17
         refine dg aa [0,1,0,7,15,31,0,64,0,448,960,1984,4095,8191,16383,32767,16383,131071,262143,524287,16383,1064959,16383,7356415,15745023,32522239,67108863,134217727,268435455] [] (z ?_)
         obtain ⟨j20, x20, en20, ex20, hq17⟩ := aB hq17
         refine bU (bQ _) en20 ex20 rfl (z ?_)
         obtain ⟨j21, x21, en21, ex21, hq17⟩ := aB hq17
         refine bU (bQ _) en21 ex21 rfl (z ?_)
         refine bkn (fun h22 => z ?_) (fun h22 => z ?_)
         ·rw [if_neg h22] at hq17
          cases hq17
          exact fc
         ·rw [if_pos h22] at hq17
          obtain ⟨j23, x23, en23, ex23, hq17⟩ := aB hq17
          refine bU (bQ _) en23 ex23 rfl (z ?_)
          obtain ⟨j24, x24, en24, ex24, hq17⟩ := aB hq17
          refine bU (bQ _) en24 ex24 rfl (z ?_)
          obtain ⟨v25, e25, hq17⟩ := ae hq17
          refine ce (ih e25) (z ?_)
          refine bkm (fun h26 => z ?_) (fun h26 => z ?_)
          ·rw [if_neg (nt h26)] at hq17
           cases hq17
           exact fc
          ·rw [if_pos h26] at hq17
           exact bk ⟨(n17, _), hq17⟩
        ·rw [if_neg h19] at hq17
         cases hq17
         exact fc
def sameD (a b : Dat) : Option Bool := sdR 20 a b
theorem xu {a b : Dat} {r : Bool} (hm : sameD a b = some r) : Has Tryz.prog 7 [.agg (dw a), .agg (dw b)] fun s => s = .bool r := sdR_ok hm
def brM (rec : Dat → Option Dat) (d : dH Dat) (items : List Dat) : Nat → Int → List (Mem Dat) → Option Dat
 | 0, _, _ => none
 | f + 1, i, out => (aN d.members).bind fun _ => if i < (d.members.length : Int) then (atI d.members i).bind fun x => (hidR x.label).bind fun h => if h then brM rec d items f (i + 1) out else
   (atI d.members i).bind fun x => (atI d.members i).bind fun y => (rec y.data).bind fun z => (push out ⟨x.label, z⟩).bind fun out => brM rec d items f (i + 1) out
  else some (.mk ⟨d.kind, d.num, d.str, items, out⟩)
def brI (rec : Dat → Option Dat) (d : dH Dat) : Nat → Int → List Dat → Option Dat
 | 0, _, _ => none
 | f + 1, i, out => (aN d.items).bind fun _ => if i < (d.items.length : Int) then (atI d.items i).bind fun x => (rec x).bind fun z => (push out z).bind fun out => brI rec d f (i + 1) out else brM rec d out (d.members.length + 1) 0 []
def brR : Nat → Dat → Option Dat
 | 0, _ => none
 | n + 1, d => brI (brR n) d.c (d.c.items.length + 1) 0 []
theorem brR_ok : ∀ {n : Nat} {d r : Dat} (hm : brR n d = some r), Has Tryz.prog 8 [.agg (dw d)] fun s => s = .agg (dw r) := by
 intro n
 induction n with
 | zero => intro d r hm; cases hm
 | succ n ih =>
  intro d r hm
  refine hs aa Tryz.f8 ?_
  unfold brR at hm
  refine z ?_
  refine bj 2 3 5 rfl rfl ?_
  refine lg (α := Nat × Int × List Dat × Nat) aa (fun (nw, s1, s2, ts2) => (brI (brR n) (d.c) nw s1 s2 = some r, ⟨66, [(4, .int .i64 s1), (3, .ptr 2 0), (2, .ptr 1 0), (1, .ptr 0 0)]⟩, ⟨[(3, .row 5 (s2.map dk) ts2 false), (2, .cells [.int .i64 d.c.kind, .int .i64 d.c.num, .str d.c.str, .own 3 ts2, .az]), (1, .cells [.int .i64 0, .int .i64 0, .str #[].toList, .az, .az]), (0, .cells (dw d))], 4, 0, [], []⟩, nw)) ⟨(_, _, _, (0)), hm⟩ ?_
  rintro ⟨n1, s1_1, s2_1, ts2_1⟩ hq1
  dsimp only at hq1
  rcases n1 with _ | n1
  ·(unfold brI at hq1; cases hq1)
  unfold brI at hq1
  refine z ?_
  obtain ⟨hg2, hq1⟩ := aj hq1
  refine bkd (fun h3 => z ?_) (fun h3 => z ?_)
  ·rw [if_pos h3] at hq1
   refine dg aa [0,1,0,4,0,28,60,124,252,511,1023,2047] [] (z ?_)
   obtain ⟨j4, x4, en4, ex4, hq1⟩ := aB hq1
   refine bU (dV _) en4 ex4 rfl (z ?_)
   obtain ⟨v5, e5, hq1⟩ := ae hq1
   refine ce (ih e5) (z ?_)
   obtain ⟨hg6, hq1⟩ := aD hq1
   refine z ?_
   refine aH (v5) (dV _) (z ?_)
   exact bk ⟨(n1, _, _, (ts2_1 + 1)), hq1⟩
  ·rw [if_neg h3] at hq1
   refine a8 rfl rfl ?_
   refine bj 2 4 6 rfl rfl ?_
   refine lg (α := Nat × Int × List (Mem Dat) × Nat) aa (fun (nw, s1, s2, ts2) => (brM (brR n) (d.c) (s2_1) nw s1 s2 = some r, ⟨66, [(5, .int .i64 s1), (3, .ptr 2 0), (2, .ptr 1 0), (1, .ptr 0 0)]⟩, ⟨[(4, .row 6 (s2.map (jn dk)) ts2 false), (3, .row 5 (List.map dk s2_1) ts2_1 false), (2, .cells [.int .i64 d.c.kind, .int .i64 d.c.num, .str d.c.str, .own 3 ts2_1, .own 4 ts2]), (1, .cells [.int .i64 0, .int .i64 0, .str #[].toList, .az, .az]), (0, .cells (dw d))], 5, 0, [], []⟩, nw)) ⟨(_, _, _, (0)), hq1⟩ ?_
   rintro ⟨n7, s1_7, s2_7, ts2_7⟩ hq7
   dsimp only at hq7
   rcases n7 with _ | n7
   ·(unfold brM at hq7; cases hq7)
   unfold brM at hq7
   refine z ?_
   obtain ⟨hg8, hq7⟩ := aj hq7
   refine bkd (fun h9 => z ?_) (fun h9 => z ?_)
   ·rw [if_pos h9] at hq7
    obtain ⟨j10, x10, en10, ex10, hq7⟩ := aB hq7
    refine bU (bQ _) en10 ex10 rfl (z ?_)
    obtain ⟨v11, e11, hq7⟩ := ae hq7
    refine ce (hidR_ok e11) (z ?_)
    refine bkm (fun h12 => z ?_) (fun h12 => z ?_)
    ·rw [if_neg (nt h12)] at hq7
     refine dg aa [0,1,0,4,0,28,60,124,0,256,0,1792,3840,7936,16128,32764,65532,131071,262143,524287] [] (z ?_)
     obtain ⟨j13, x13, en13, ex13, hq7⟩ := aB hq7
     refine bU (bQ _) en13 ex13 rfl (z ?_)
     obtain ⟨j14, x14, en14, ex14, hq7⟩ := aB hq7
     refine bU (bQ _) en14 ex14 rfl (z ?_)
     obtain ⟨v15, e15, hq7⟩ := ae hq7
     refine ce (ih e15) (z ?_)
     obtain ⟨hg16, hq7⟩ := aD hq7
     refine z ?_
     refine aH ({ label := x13.label, data := v15 }) (bQ _) (z ?_)
     exact bk ⟨(n7, _, _, (ts2_7 + 1)), hq7⟩
    ·rw [if_pos h12] at hq7
     exact bk ⟨(n7, _, _, (ts2_7)), hq7⟩
   ·rw [if_neg h9] at hq7
    cases hq7
    refine cP (z ?_)
    first | exact e2 | exact rfl
def bareR (d : Dat) : Option Dat := brR 20 d
theorem bareR_ok {d r : Dat} (hm : bareR d = some r) : Has Tryz.prog 8 [.agg (dw d)] fun s => s = .agg (dw r) := brR_ok hm
end Go.Proofs.YtmjddpeookapaaaGreatDoor
