/- For ConcreteHidden: functions of the program, walked beside Lean functions that say what they compute. -/
import Derived.Test.YtmjddpeookapaaaGreatDoorEn
import Derived.KernelRfl
import Derived.Test.YtmjddpeookapaaaGreatDoorMn
set_option linter.unusedVariables false
set_option linter.unusedSimpArgs false
set_option linter.unusedSectionVars false
namespace Go.Proofs.YtmjddpeookapaaaGreatDoor
open Sv
set_option maxRecDepth 100000
set_option maxHeartbeats 2000000
theorem disOr2_ok {x y : Va} {a b : Bool} {r : Va × Int} (hm : disOr [x, y] [a, b] = some r) : aY Tryz.prog 12 [.lst false [uVa x, uVa y], .lst false [[.bool a], [.bool b]]] fun s => s = .tup [.agg (uVa r.1), .int .i64 r.2] := by
 have h := disOr_ok hm
 rwa [show List.map eVa [x, y] = [uVa x, uVa y] from by rw [List.map, List.map, List.map, bX, bX]] at h
theorem cLoose1_ok {w : List UInt8} {n : Dat} {r : Va × Int} (hm : wy (.mk ⟨6, 0, [], [], [⟨w, n⟩]⟩) = some r) : aY Tryz.prog 13 [.agg [.int .i64 6, .int .i64 0, .str [], .lst false [], .lst false [.str w :: dw n]]] fun s => s = .tup [.agg (uVa r.1), .int .i64 r.2] := by
 have h := cLoose_ok hm
 have e : dw (.mk ⟨6, 0, [], [], [⟨w, n⟩]⟩) = [.int .i64 6, .int .i64 0, .str [], .lst false [], .lst false [.str w :: dw n]] := by
  show [SVal.int _ 6, .int _ 0, .str [], .lst false [], .lst false [.str w :: dk n]] = _
  rw [dV]
 rwa [e] at h
theorem plain_okF {w : List UInt8} {i : Int} {p : Va} {ks : List (Cls Va)} {r : Va} (hm : plain ⟨false, dX, [], [⟨[⟨w, i, p⟩], ks⟩]⟩ = some r) : Has Tryz.prog 14 [.agg [.bool false, .bool false, .bool false, .bool false, .lst false [], .lst false [], .lst false [], .lst false [], .lst false [[.lst false [.str w :: .int .i64 i :: uVa p], .lst false (ks.map (cQ eVa))]]]] fun s => s = .agg (uVa r) := by
 have h := ia hm
 have e : bM eVa ⟨false, dX, [], [⟨[⟨w, i, p⟩], ks⟩]⟩ = [.bool false, .bool false, .bool false, .bool false, .lst false [], .lst false [], .lst false [], .lst false [], .lst false [[.lst false [.str w :: .int .i64 i :: uVa p], .lst false (ks.map (cQ eVa))]]] := by
  show [SVal.bool _, .bool _, .bool _, .bool _, .lst false [], .lst false [], .lst false [], .lst false [], .lst false [[.lst false [.str w :: .int .i64 i :: eVa p], _]]] = _
  rw [bX]
  rfl
 rwa [e] at h
def exQ (v : Va) : Option Bool := (plain ⟨false, ⟨false, false, false, [⟨0, 9⟩], [], []⟩, [], []⟩).bind fun p => (atI v.v.structs 0).bind fun c0 => (plain ⟨false, dX, [], [⟨[⟨[97], 1, p⟩], c0.aA⟩]⟩).bind fun q =>
 (probsC q true).bind fun l => (aN l).bind fun _ => if (l.length : Int) = 1 then (atI l 0).bind fun e => if e.jO = 14 then (atI l 0).bind fun e => samP e.path [⟨[97], 0⟩] else some false else some false
def exP : Option Bool := (numD 0).bind fun n0 => (wy (.mk ⟨6, 0, [], [], [⟨[97], n0⟩]⟩)).bind fun v => if v.2 = 0 then (aN v.1.v.structs).bind fun _ => if (v.1.v.structs.length : Int) = 1 then exQ v.1 else some false else some false
def n9 : Option Bool := (numD 10000).bind fun n1 => (cOf n1).bind fun one => (numD 20000).bind fun n2 => (cOf n2).bind fun two => (disOr [one.1, two.1] [true, false]).bind fun ei => (mY ei.1 true).bind fun d =>
 if one.2 = 0 then if two.2 = 0 then if ei.2 = 0 then if d.2 = 0 then (numD 10000).bind fun n => (sameD d.1 n).bind fun ok => if ok then exP else some false else some false else some false else some false else some false
theorem vP {r : Bool} (hm : n9 = some r) : aY Tryz.prog 5 [] fun s => s = .bool r := by
 refine ht aa Tryz.f5 ?_
 unfold n9 at hm
 refine z ?_
 obtain ⟨v1, e1, hm⟩ := ae hm
 refine ce (pH e1) (z ?_)
 obtain ⟨v2, e2, hm⟩ := ae hm
 refine ct (cOf_ok e2) (z ?_)
 obtain ⟨v3, e3, hm⟩ := ae hm
 refine ce (pH e3) (z ?_)
 obtain ⟨v4, e4, hm⟩ := ae hm
 refine ct (cOf_ok e4) (z ?_)
 obtain ⟨v5, e5, hm⟩ := ae hm
 refine bq (disOr2_ok e5) (z ?_)
 obtain ⟨v6, e6, hm⟩ := ae hm
 refine ct (rJ e6) (z ?_)
 refine dg aa [0,1,3,7,15,31,63,127,255,511,1023,2047,4095,8191,16383,32767,32767,131071,262143,524287] [] (z ?_)
 refine bkn (fun h7 => z ?_) (fun h7 => z ?_)
 rw [if_neg h7] at hm
 cases hm
 exact mst
 rw [if_pos h7] at hm
 refine bkn (fun h8 => z ?_) (fun h8 => z ?_)
 rw [if_neg h8] at hm
 cases hm
 exact mst
 rw [if_pos h8] at hm
 refine bkn (fun h9 => z ?_) (fun h9 => z ?_)
 rw [if_neg h9] at hm
 cases hm
 exact mst
 rw [if_pos h9] at hm
 refine bkn (fun h10 => z ?_) (fun h10 => z ?_)
 rw [if_neg h10] at hm
 cases hm
 exact mst
 rw [if_pos h10] at hm
 obtain ⟨v11, e11, hm⟩ := ae hm
 refine ce (pH e11) (z ?_)
 obtain ⟨v12, e12, hm⟩ := ae hm
 refine ce (xu e12) (z ?_)
 refine bkm (fun h13 => z ?_) (fun h13 => z ?_)
 rw [if_neg (nt h13)] at hm
 cases hm
 exact mst
 rw [if_pos h13] at hm
 unfold exP at hm
 refine z ?_
 obtain ⟨v14, e14, hm⟩ := ae hm
 refine ce (pH e14) (z ?_)
 obtain ⟨v15, e15, hm⟩ := ae hm
 refine bq (cLoose1_ok e15) (z ?_)
 refine bkn (fun h16 => z ?_) (fun h16 => z ?_)
 rw [if_neg h16] at hm
 cases hm
 exact mst
 rw [if_pos h16] at hm
 obtain ⟨hg17, hm⟩ := aj hm
 refine bkn (fun h18 => z ?_) (fun h18 => z ?_)
 rw [if_neg h18] at hm
 cases hm
 exact mst
 rw [if_pos h18] at hm
 unfold exQ at hm
 refine z ?_
 refine dg aa [0,1,3,7,15,31,63,127,0,256,768,1792,3840,7936,16383,0,65535] [] (z ?_)
 obtain ⟨v19, e19, hm⟩ := ae hm
 refine eA (ia e19) (z ?_)
 obtain ⟨j20, x20, en20, ex20, hm⟩ := aB hm
 refine bf en20 ex20 rfl (z ?_)
 obtain ⟨v21, e21, hm⟩ := ae hm
 refine eA (plain_okF e21) (z ?_)
 obtain ⟨v22, e22, hm⟩ := ae hm
 refine ct (probsC_ok e22) (z ?_)
 obtain ⟨hg23, hm⟩ := aj hm
 refine bkd (fun h24 => z ?_) (fun h24 => z ?_)
 rw [if_pos h24] at hm
 obtain ⟨j25, x25, en25, ex25, hm⟩ := aB hm
 refine bf en25 ex25 rfl (z ?_)
 refine bkd (fun h26 => z ?_) (fun h26 => z ?_)
 rw [if_pos h26] at hm
 obtain ⟨j27, x27, en27, ex27, hm⟩ := aB hm
 refine bf en27 ex27 rfl (z ?_)
 replace hm := aG hm
 obtain ⟨v28, e28, hm⟩ := ae hm
 refine bH (samP_ok e28) rfl (z ?_)
 cases hm
 exact mst
 rw [if_neg h26] at hm
 cases hm
 exact mst
 rw [if_neg h24] at hm
 cases hm
 exact mst
def lawH (v : Va) : Option Bool := (qn v).bind fun s => if s then (mY v true).bind fun p => if p.2 = 0 then (mY v false).bind fun q => if q.2 = 0 then (bareR p.1).bind fun b => (sameD q.1 b).bind fun ok => if ok then n9 else some false else some false else n9 else n9
theorem lawH_ok {v : Va} {r : Bool} (hm : lawH v = some r) : aY Tryz.prog 3 [.agg (uVa v)] fun s => s = .bool r := by
 refine ht aa Tryz.f3 ?_
 unfold lawH at hm
 refine z ?_
 obtain ⟨v1, e1, hm⟩ := ae hm
 refine ce (smallR_ok e1) (z ?_)
 refine bkm (fun h2 => z ?_) (fun h2 => z ?_)
 rw [if_neg (nt h2)] at hm
 replace hm := aG hm
 obtain ⟨v3, e3, hm⟩ := ae hm
 refine ct (vP e3) (z ?_)
 cases hm
 exact mst
 rw [if_pos h2] at hm
 obtain ⟨v4, e4, hm⟩ := ae hm
 refine ct (rJ e4) (z ?_)
 refine bkn (fun h5 => z ?_) (fun h5 => z ?_)
 rw [if_neg h5] at hm
 replace hm := aG hm
 obtain ⟨v6, e6, hm⟩ := ae hm
 refine ct (vP e6) (z ?_)
 cases hm
 exact mst
 rw [if_pos h5] at hm
 obtain ⟨v7, e7, hm⟩ := ae hm
 refine ct (rJ e7) (z ?_)
 refine dg aa [0,1,3,7,7,23,63,127,255,511,1023,2047] [] (z ?_)
 refine bkd (fun h8 => z ?_) (fun h8 => z ?_)
 rw [if_pos h8] at hm
 obtain ⟨v9, e9, hm⟩ := ae hm
 refine ce (bareR_ok e9) (z ?_)
 obtain ⟨v10, e10, hm⟩ := ae hm
 refine ce (xu e10) (z ?_)
 refine brk (fun h11 => z ?_) (fun h11 => z ?_)
 rw [if_pos h11] at hm
 replace hm := aG hm
 obtain ⟨v12, e12, hm⟩ := ae hm
 refine ct (vP e12) (z ?_)
 cases hm
 exact mst
 rw [if_neg (nt h11)] at hm
 cases hm
 exact mst
 rw [if_neg h8] at hm
 cases hm
 exact mst
end Go.Proofs.YtmjddpeookapaaaGreatDoor
