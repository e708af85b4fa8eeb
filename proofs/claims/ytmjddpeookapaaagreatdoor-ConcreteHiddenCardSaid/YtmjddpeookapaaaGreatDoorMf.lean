/- For ConcreteHidden: functions of the program, walked beside Lean functions that say what they compute. -/
import Derived.Test.YtmjddpeookapaaaGreatDoorEn
import Derived.KernelRfl
import Derived.Test.YtmjddpeookapaaaGreatDoorMe
set_option linter.unusedVariables false
set_option linter.unusedSimpArgs false
set_option linter.unusedSectionVars false
namespace Go.Proofs.YtmjddpeookapaaaGreatDoor
open Sv
set_option maxRecDepth 100000
set_option maxHeartbeats 2000000
abbrev sEq : List UInt8 := [61, 61]
def opsN : List (List UInt8) := [[60], [60, 61], [62], [62, 61], [61, 61], [33, 61]]
def sr (u : Int) : Option (cK × Int) := (conS opsN sEq).bind fun c => if c then (fixV u).bind fun ok => if ok then
  (cX (u - 1)).bind fun _ => (lZ (u - 1)).bind fun f1 => (gM ⟨[⟨-100000000000, f1⟩], [⟨-1000000000000000, u - 1⟩]⟩).bind fun less =>
  (cX (0 - u)).bind fun _ => (lZ (0 - u)).bind fun g => (cX (0 - g)).bind fun _ => (lZ u).bind fun h => (gM ⟨[⟨0 - g, h⟩], [⟨u, u⟩]⟩).bind fun one => some (one, 0)
 else some (⟨[], []⟩, 1) else some (⟨[], []⟩, 8)
theorem boundN_ok {u : Int} {r : cK × Int} (hm : sr u = some r) : aY Tryz.prog 94 [.str sEq, .int .i64 u] fun s => s = .tup [.agg (cw r.1), .int .i64 r.2] := by
 refine ht aa Tryz.f94 ?_
 unfold sr at hm
 refine z ?_
 obtain ⟨v1, e1, hm⟩ := ae hm
 refine bH (conS_ok e1) rfl (z ?_)
 refine bkm (fun h2 => z ?_) (fun h2 => z ?_)
 rw [if_neg (nt h2)] at hm
 cases hm
 refine aR (z ?_)
 exact mt
 rw [if_pos h2] at hm
 obtain ⟨v3, e3, hm⟩ := ae hm
 refine ce (fixV_ok e3) (z ?_)
 refine bkm (fun h4 => z ?_) (fun h4 => z ?_)
 rw [if_neg (nt h4)] at hm
 cases hm
 refine aR (z ?_)
 exact mt
 rw [if_pos h4] at hm
 obtain ⟨hg5, hm⟩ := aj hm
 refine z ?_
 obtain ⟨v7, e7, hm⟩ := ae hm
 refine ce (rC e7) (z ?_)
 obtain ⟨v8, e8, hm⟩ := ae hm
 refine bq (eg e8) (z ?_)
 obtain ⟨hg9, hm⟩ := aj hm
 obtain ⟨v10, e10, hm⟩ := ae hm
 refine ce (rC e10) (z ?_)
 obtain ⟨hg11, hm⟩ := aj hm
 refine z ?_
 obtain ⟨v13, e13, hm⟩ := ae hm
 refine ce (rC e13) (z ?_)
 obtain ⟨v14, e14, hm⟩ := ae hm
 refine bq (eg e14) (z ?_)
 cases hm
 exact mst
def wz (s : List UInt8) : Option (List Stt × Int) := (tu s).bind fun l => some (l, 0)
theorem boundL_ok {s : List UInt8} {r : List Stt × Int} (hm : wz s = some r) : aY Tryz.prog 95 [.str sEq, .str s] fun v => v = .tup [.agg [aC r.1], .int .i64 r.2] := by
 refine ht aa Tryz.f95 ?_
 unfold wz at hm
 refine z ?_
 obtain ⟨v1, e1, hm⟩ := ae hm
 refine ce (word_ok e1) (z ?_)
 cases hm
 exact mst
def scN (n : cK) : bW := ⟨false, false, false, n.ints, n.bK, []⟩
def scL (l : List Stt) : bW := ⟨false, false, false, [], [], l⟩
def kC (d : dH Dat) : Option (bW × Int) := if d.kind = 3 then (sr d.num).bind fun p => some (scN p.1, p.2) else (wz d.str).bind fun p => some (scL p.1, p.2)
theorem qK {d : dH Dat} {r : bW × Int} (hm : kC d = some r) : aY Tryz.prog 71 [.str sEq, .agg (fR dk d)] fun v => v = .tup [.agg (bS r.1), .int .i64 r.2] := by
 refine ht aa Tryz.f71 ?_
 unfold kC at hm
 refine z ?_
 refine bkd (fun h1 => z ?_) (fun h1 => z ?_)
 rw [if_pos h1] at hm
 obtain ⟨v2, e2, hm⟩ := ae hm
 refine ct (boundN_ok e2) (z ?_)
 cases hm
 refine aR (z ?_)
 exact mt
 rw [if_neg h1] at hm
 obtain ⟨v3, e3, hm⟩ := ae hm
 refine ct (boundL_ok e3) (z ?_)
 cases hm
 refine aR (z ?_)
 exact mt
def ofS (d : Dat) : Option (bW × Int) := (chkD d).bind fun e => if e = 0 then
  if d.c.kind = 1 then some (⟨true, false, false, [], [], []⟩, 0) else
  if d.c.kind = 2 then some (⟨false, decide (d.c.num = 0), decide (d.c.num = 1), [], [], []⟩, 0) else
  if d.c.kind = 3 then kC d.c else if d.c.kind = 4 then kC d.c else some (dX, 11)
 else some (dX, e)
theorem ofS_ok {d : Dat} {r : bW × Int} (hm : ofS d = some r) : aY Tryz.prog 49 [.agg (dw d)] fun v => v = .tup [.agg (bS r.1), .int .i64 r.2] := by
 refine ht aa Tryz.f49 ?_
 unfold ofS at hm
 refine z ?_
 obtain ⟨v1, e1, hm⟩ := ae hm
 refine ce (chkD_ok e1) (z ?_)
 refine bkn (fun h2 => z ?_) (fun h2 => z ?_)
 rw [if_neg h2] at hm
 cases hm
 refine aR (z ?_)
 exact mt
 rw [if_pos h2] at hm
 refine bkd (fun h3 => z ?_) (fun h3 => z ?_)
 rw [if_pos h3] at hm
 cases hm
 refine aR (z ?_)
 exact mt
 rw [if_neg h3] at hm
 refine bkd (fun h4 => z ?_) (fun h4 => z ?_)
 rw [if_pos h4] at hm
 cases hm
 refine aR (z ?_)
 exact mt
 rw [if_neg h4] at hm
 refine bkd (fun h5 => z ?_) (fun h5 => z ?_)
 rw [if_pos h5] at hm
 refine bdt h5 (z ?_)
 replace hm := aG hm
 obtain ⟨v6, e6, hm⟩ := ae hm
 refine ct (qK e6) (z ?_)
 cases hm
 exact mst
 rw [if_neg h5] at hm
 refine bkd (fun h7 => z ?_) (fun h7 => z ?_)
 rw [if_pos h7] at hm
 replace hm := aG hm
 obtain ⟨v8, e8, hm⟩ := ae hm
 refine ct (qK e8) (z ?_)
 cases hm
 exact mst
 rw [if_neg h7] at hm
 cases hm
 refine aR (z ?_)
 exact mt
def nums (s : bW) : cK := ⟨s.ints, s.bK⟩
def jv (s : bW) : Option Bool := (qg ⟨s.ints, s.bK⟩).bind fun c => if c then lG s.strs else some false
theorem km {s : bW} {r : Bool} (hm : jv s = some r) : aY Tryz.prog 113 [.agg (bS s)] fun v => v = .bool r := by
 refine ht aa Tryz.f113 ?_
 unfold jv at hm
 refine z ?_
 obtain ⟨v1, e1, hm⟩ := ae hm
 refine ct (validN_ok e1) (z ?_)
 refine brk (fun h2 => z ?_) (fun h2 => z ?_)
 rw [if_pos h2] at hm
 replace hm := aG hm
 obtain ⟨v3, e3, hm⟩ := ae hm
 refine ct (ny e3) (z ?_)
 cases hm
 exact mst
 rw [if_neg (nt h2)] at hm
 cases hm
 exact mst
def rv (s : bW) : Option bW := (jv s).bind fun c => if c then some s else some dX
theorem ru {s r : bW} (hm : rv s = some r) : aY Tryz.prog 76 [.agg (bS s)] fun v => v = .agg (bS r) := by
 refine ht aa Tryz.f76 ?_
 unfold rv at hm
 refine z ?_
 obtain ⟨v1, e1, hm⟩ := ae hm
 refine ct (km e1) (z ?_)
 refine bkm (fun h2 => z ?_) (fun h2 => z ?_)
 rw [if_neg (nt h2)] at hm
 cases hm
 refine aR (z ?_)
 exact mt
 rw [if_pos h2] at hm
 cases hm
 exact mst
def allS : Option bW := allN.bind fun n => allA.bind fun l => some ⟨true, true, true, n.ints, n.bK, l⟩
theorem allS_ok {r : bW} (hm : allS = some r) : aY Tryz.prog 151 [] fun v => v = .agg (bS r) := by
 refine ht aa Tryz.f151 ?_
 unfold allS at hm
 refine z ?_
 obtain ⟨v1, e1, hm⟩ := ae hm
 refine ce (allN_ok e1) (z ?_)
 obtain ⟨v2, e2, hm⟩ := ae hm
 refine ce (allA_ok e2) (z ?_)
 cases hm
 exact mst
def combine (is : Bool → Bool → Option Bool) (ns : cK → cK → Option cK) (ls : List Stt → List Stt → Option (List Stt)) (a b : bW) : Option bW :=
 (rv a).bind fun a => (rv b).bind fun b => (is a.null b.null).bind fun x => (is a.fls b.fls).bind fun y => (is a.tru b.tru).bind fun z =>
 (ns ⟨a.ints, a.bK⟩ ⟨b.ints, b.bK⟩).bind fun n => (ls a.strs b.strs).bind fun l => some ⟨x, y, z, n.ints, n.bK, l⟩
theorem rP {fi fn fs : FuncId} {is : Bool → Bool → Option Bool} {ns : cK → cK → Option cK} {ls : List Stt → List Stt → Option (List Stt)}
  (hi : ∀ {x y r}, is x y = some r → Has Tryz.prog fi [.bool x, .bool y] fun s => s = .bool r) (hn : ∀ {x y r}, ns x y = some r → aY Tryz.prog fn [.agg (cw x), .agg (cw y)] fun s => s = .agg (cw r))
  (hs : ∀ {x y r}, ls x y = some r → aY Tryz.prog fs [.agg [aC x], .agg [aC y]] fun s => s = .agg [aC r]) {a b r : bW} (hm : combine is ns ls a b = some r) :
  aY Tryz.prog 54 [.agg (bS a), .agg (bS b), .func (.func fi) [] [], .func (.func fn) [] [], .func (.func fs) [] []] fun v => v = .agg (bS r) := by
 refine ht aa Tryz.f54 ?_
 unfold combine at hm
 refine z ?_
 refine dg aa [0,1,0,7,15,31] [] (z ?_)
 obtain ⟨v1, e1, hm⟩ := ae hm
 refine ct (ru e1) (z ?_)
 obtain ⟨v2, e2, hm⟩ := ae hm
 refine ct (ru e2) (z ?_)
 refine dg aa [0,0,2,0,8,31,0,0,128,0,512,2047,0,0,8192,0,32768,131071,0,0,524288,0,2097152,8388607,0,0,33554432,0,134217728,536870911,1073741823,2147483647] [] (z ?_)
 obtain ⟨v3, e3, hm⟩ := ae hm
 refine ce (hi e3) (z ?_)
 obtain ⟨v4, e4, hm⟩ := ae hm
 refine ce (hi e4) (z ?_)
 obtain ⟨v5, e5, hm⟩ := ae hm
 refine ce (hi e5) (z ?_)
 obtain ⟨v6, e6, hm⟩ := ae hm
 refine ct (hn e6) (z ?_)
 obtain ⟨v7, e7, hm⟩ := ae hm
 refine ct (hs e7) (z ?_)
 cases hm
 exact mst
theorem sor1_ok {x y r : Bool} (hm : or1 x y = some r) : Has Tryz.prog 55 [.bool x, .bool y] fun s => s = .bool r := by
 refine hs aa Tryz.f55 ?_
 unfold or1 at hm
 refine z ?_
 refine brk (fun h1 => z ?_) (fun h1 => z ?_)
 rw [if_pos h1] at hm
 cases hm
 exact fc
 rw [if_neg (nt h1)] at hm
 cases hm
 exact fc
theorem sminus1_ok {x y r : Bool} (hm : jJ x y = some r) : Has Tryz.prog 122 [.bool x, .bool y] fun s => s = .bool r := by
 refine hs aa Tryz.f122 ?_
 unfold jJ at hm
 refine z ?_
 refine brk (fun h1 => z ?_) (fun h1 => z ?_)
 rw [if_pos h1] at hm
 cases hm
 exact fc
 rw [if_neg (nt h1)] at hm
 cases hm
 exact fc
def orS (a b : bW) : Option bW := combine or1 orN orL a b
theorem orS_ok {a b r : bW} (hm : orS a b = some r) : aY Tryz.prog 36 [.agg (bS a), .agg (bS b)] fun v => v = .agg (bS r) := by
 refine ht aa Tryz.f36 ?_
 unfold orS at hm
 refine z ?_
 replace hm := aG hm
 obtain ⟨v1, e1, hm⟩ := ae hm
 refine ct (rP sor1_ok orN_ok vx e1) (z ?_)
 cases hm
 exact mst
def qZ (a b : bW) : Option bW := combine jJ lP jI a b
theorem minusS_ok {a b r : bW} (hm : qZ a b = some r) : aY Tryz.prog 81 [.agg (bS a), .agg (bS b)] fun v => v = .agg (bS r) := by
 refine ht aa Tryz.f81 ?_
 unfold qZ at hm
 refine z ?_
 replace hm := aG hm
 obtain ⟨v1, e1, hm⟩ := ae hm
 refine ct (rP sminus1_ok nQ kL e1) (z ?_)
 cases hm
 exact mst
def gZ (k n : Int) (s : List UInt8) : Dat := .mk ⟨k, n, s, [], []⟩
def nT (s : bW) : Option (Dat × Bool) := (rv s).bind fun s => (lT ⟨s.ints, s.bK⟩).bind fun p => (lV s.strs).bind fun q =>
 if s.null then some (gZ 1 0 [], true) else if s.fls then some (gZ 2 0 [], true) else if s.tru then some (gZ 2 1 [], true) else
 if p.2 then some (gZ 3 p.1 [], true) else if q.2 then some (gZ 4 0 q.1, true) else some (gZ 0 0 [], false)
theorem tZ {s : bW} {r : Dat × Bool} (hm : nT s = some r) : aY Tryz.prog 59 [.agg (bS s)] fun v => v = .tup [.agg (dw r.1), .bool r.2] := by
 refine ht aa Tryz.f59 ?_
 unfold nT at hm
 refine z ?_
 obtain ⟨v1, e1, hm⟩ := ae hm
 refine ct (ru e1) (z ?_)
 obtain ⟨v2, e2, hm⟩ := ae hm
 refine ct (nU e2) (z ?_)
 obtain ⟨v3, e3, hm⟩ := ae hm
 refine ct (nV e3) (z ?_)
 refine brk (fun h4 => z ?_) (fun h4 => z ?_)
 rw [if_pos h4] at hm
 cases hm
 refine aR (z ?_)
 exact mt
 rw [if_neg (nt h4)] at hm
 refine brk (fun h5 => z ?_) (fun h5 => z ?_)
 rw [if_pos h5] at hm
 cases hm
 refine aR (z ?_)
 exact mt
 rw [if_neg (nt h5)] at hm
 refine brk (fun h6 => z ?_) (fun h6 => z ?_)
 rw [if_pos h6] at hm
 cases hm
 refine aR (z ?_)
 exact mt
 rw [if_neg (nt h6)] at hm
 refine brk (fun h7 => z ?_) (fun h7 => z ?_)
 rw [if_pos h7] at hm
 cases hm
 refine aR (z ?_)
 exact mt
 rw [if_neg (nt h7)] at hm
 refine brk (fun h8 => z ?_) (fun h8 => z ?_)
 rw [if_pos h8] at hm
 cases hm
 refine aR (z ?_)
 exact mt
 rw [if_neg (nt h8)] at hm
 cases hm
 refine aR (z ?_)
 exact mt
def jQ (s : bW) : Option Bool := (nT s).bind fun p => some (!p.2)
theorem kY {s : bW} {r : Bool} (hm : jQ s = some r) : aY Tryz.prog 42 [.agg (bS s)] fun v => v = .bool r := by
 refine ht aa Tryz.f42 ?_
 unfold jQ at hm
 refine z ?_
 obtain ⟨v1, e1, hm⟩ := ae hm
 refine ct (tZ e1) (z ?_)
 cases hm
 exact mst
def kr (a b : bW) : Option Bool := (qZ a b).bind fun s => jQ s
theorem qj {a b : bW} {r : Bool} (hm : kr a b = some r) : aY Tryz.prog 60 [.agg (bS a), .agg (bS b)] fun v => v = .bool r := by
 refine ht aa Tryz.f60 ?_
 unfold kr at hm
 refine z ?_
 obtain ⟨v1, e1, hm⟩ := ae hm
 refine ct (minusS_ok e1) (z ?_)
 replace hm := aG hm
 obtain ⟨v2, e2, hm⟩ := ae hm
 refine ct (kY e2) (z ?_)
 cases hm
 exact mst
def kx (s : bW) : Option (Dat × Bool) := (nT s).bind fun p => if p.2 then (ofS p.1).bind fun q => (kr s q.1).bind fun c => if c then some (p.1, true) else some (gZ 0 0 [], false) else some (gZ 0 0 [], false)
theorem qo {s : bW} {r : Dat × Bool} (hm : kx s = some r) : aY Tryz.prog 41 [.agg (bS s)] fun v => v = .tup [.agg (dw r.1), .bool r.2] := by
 refine ht aa Tryz.f41 ?_
 unfold kx at hm
 refine z ?_
 obtain ⟨v1, e1, hm⟩ := ae hm
 refine ct (tZ e1) (z ?_)
 refine bkm (fun h2 => z ?_) (fun h2 => z ?_)
 rw [if_neg (nt h2)] at hm
 cases hm
 refine aR (z ?_)
 exact mt
 rw [if_pos h2] at hm
 obtain ⟨v3, e3, hm⟩ := ae hm
 refine ct (ofS_ok e3) (z ?_)
 obtain ⟨v4, e4, hm⟩ := ae hm
 refine ct (qj e4) (z ?_)
 refine bkm (fun h5 => z ?_) (fun h5 => z ?_)
 rw [if_neg (nt h5)] at hm
 cases hm
 refine aR (z ?_)
 exact mt
 rw [if_pos h5] at hm
 cases hm
 exact mst
def tri (a b : Bool) (k : Option Int) : Option Int := if (a == true && (b == false && true)) then some (-1) else if (a == false && (b == true && true)) then some 1 else k
def rS (a b : bW) : Option Int := (jv a).bind fun x => if x then (jv b).bind fun y => if y then
  tri a.null b.null (tri a.fls b.fls (tri a.tru b.tru ((cmpN ⟨a.ints, a.bK⟩ ⟨b.ints, b.bK⟩).bind fun c => if c = 0 then ze a.strs b.strs else some c)))
 else some 0 else some 0
theorem za {a b : bW} {r : Int} (hm : rS a b = some r) : aY Tryz.prog 150 [.agg (bS a), .agg (bS b)] fun v => v = .int .i64 r := by
 refine ht aa Tryz.f150 ?_
 unfold rS at hm
 refine z ?_
 obtain ⟨v1, e1, hm⟩ := ae hm
 refine ct (km e1) (z ?_)
 refine bkm (fun h2 => z ?_) (fun h2 => z ?_)
 rw [if_neg (nt h2)] at hm
 cases hm
 exact mst
 rw [if_pos h2] at hm
 obtain ⟨v3, e3, hm⟩ := ae hm
 refine ct (km e3) (z ?_)
 refine bkm (fun h4 => z ?_) (fun h4 => z ?_)
 rw [if_neg (nt h4)] at hm
 cases hm
 exact mst
 rw [if_pos h4] at hm
 unfold tri at hm
 refine z ?_
 refine bd aa ?_
 refine z ?_
 refine b5 (j := 0) rfl (by omega) (z ?_)
 refine brk (fun h5 => z ?_) (fun h5 => z ?_)
 rw [if_pos h5] at hm
 cases hm
 exact mst
 rw [if_neg (nt h5)] at hm
 refine brk (fun h6 => z ?_) (fun h6 => z ?_)
 rw [if_pos h6] at hm
 cases hm
 exact mst
 rw [if_neg (nt h6)] at hm
 refine bd aa ?_
 refine z ?_
 refine b5 (j := 1) rfl (by omega) (z ?_)
 refine brk (fun h7 => z ?_) (fun h7 => z ?_)
 rw [if_pos h7] at hm
 cases hm
 exact mst
 rw [if_neg (nt h7)] at hm
 refine brk (fun h8 => z ?_) (fun h8 => z ?_)
 rw [if_pos h8] at hm
 cases hm
 exact mst
 rw [if_neg (nt h8)] at hm
 refine bd aa ?_
 refine z ?_
 refine b5 (j := 2) rfl (by omega) (z ?_)
 refine brk (fun h9 => z ?_) (fun h9 => z ?_)
 rw [if_pos h9] at hm
 cases hm
 exact mst
 rw [if_neg (nt h9)] at hm
 refine brk (fun h10 => z ?_) (fun h10 => z ?_)
 rw [if_pos h10] at hm
 cases hm
 exact mst
 rw [if_neg (nt h10)] at hm
 refine bd aa ?_
 refine z ?_
 obtain ⟨v11, e11, hm⟩ := ae hm
 refine ct (cmpN_ok e11) (z ?_)
 refine bkn (fun h12 => z ?_) (fun h12 => z ?_)
 rw [if_neg h12] at hm
 cases hm
 exact mst
 rw [if_pos h12] at hm
 replace hm := aG hm
 obtain ⟨v13, e13, hm⟩ := ae hm
 refine ct (vZ e13) (z ?_)
 cases hm
 exact mst
abbrev zV : Vlu Va := zVlu Va
abbrev zVa : Va := .mk (zVlu Va) (zVlu Va)
def tS (s : bW) : Option Bool := if s.null then some false else if s.fls then some false else if s.tru then some false else
 (aN s.ints).bind fun _ => (aN s.bK).bind fun _ => (aN s.strs).bind fun _ => some (decide ((s.ints.length : Int) + s.bK.length + s.strs.length = 0))
theorem yd {s : bW} {r : Bool} (hm : tS s = some r) : Has Tryz.prog 58 [.agg (bS s)] fun v => v = .bool r := by
 refine hs aa Tryz.f58 ?_
 unfold tS at hm
 refine z ?_
 refine bkm (fun h1 => z ?_) (fun h1 => z ?_)
 rw [if_neg (nt h1)] at hm
 refine bkm (fun h2 => z ?_) (fun h2 => z ?_)
 rw [if_neg (nt h2)] at hm
 refine bkm (fun h3 => z ?_) (fun h3 => z ?_)
 rw [if_neg (nt h3)] at hm
 obtain ⟨hg4, hm⟩ := aj hm
 obtain ⟨hg5, hm⟩ := aj hm
 obtain ⟨hg6, hm⟩ := aj hm
 refine z ?_
 cases hm
 exact fc
 rw [if_pos h3] at hm
 cases hm
 exact fc
 rw [if_pos h2] at hm
 cases hm
 exact fc
 rw [if_pos h1] at hm
 cases hm
 exact fc
def jd (v : Vlu Va) : Option Bool := if v.any then some false else (aN v.lists).bind fun _ => (aN v.structs).bind fun _ =>
 if (v.lists.length : Int) + v.structs.length = 0 then (tS v.sc).bind fun c => if c then some true else jQ v.sc else some false
theorem iq {v : Vlu Va} {r : Bool} (hm : jd v = some r) : aY Tryz.prog 40 [.agg (bM eVa v)] fun s => s = .bool r := by
 refine ht aa Tryz.f40 ?_
 unfold jd at hm
 refine z ?_
 refine bkm (fun h1 => z ?_) (fun h1 => z ?_)
 rw [if_neg (nt h1)] at hm
 obtain ⟨hg2, hm⟩ := aj hm
 obtain ⟨hg3, hm⟩ := aj hm
 refine z ?_
 refine bkd (fun h4 => z ?_) (fun h4 => z ?_)
 rw [if_pos h4] at hm
 obtain ⟨v5, e5, hm⟩ := ae hm
 refine ce (yd e5) (z ?_)
 refine brk (fun h6 => z ?_) (fun h6 => z ?_)
 rw [if_pos h6] at hm
 cases hm
 exact mst
 rw [if_neg (nt h6)] at hm
 replace hm := aG hm
 obtain ⟨v7, e7, hm⟩ := ae hm
 refine ct (kY e7) (z ?_)
 cases hm
 exact mst
 rw [if_neg h4] at hm
 cases hm
 exact mst
 rw [if_pos h1] at hm
 cases hm
 exact mst
def ug (x : Va) : Option Bool := if x.v.any then some x.d.any else some false
theorem yw {x : Va} {r : Bool} (hm : ug x = some r) : Has Tryz.prog 197 [.agg (uVa x)] fun s => s = .bool r := by
 refine hs aa Tryz.f197 ?_
 unfold ug at hm
 refine z ?_
 refine brk (fun h1 => z ?_) (fun h1 => z ?_)
 rw [if_pos h1] at hm
 cases hm
 exact fc
 rw [if_neg (nt h1)] at hm
 cases hm
 exact fc
def plain (v : Vlu Va) : Option Va := some (.mk v v)
theorem ia {v : Vlu Va} {r : Va} (hm : plain v = some r) : Has Tryz.prog 14 [.agg (bM eVa v)] fun s => s = .agg (uVa r) := by
 refine hs aa Tryz.f14 ?_
 unfold plain at hm
 refine z ?_
 cases hm
 exact fc
def topV : Option Va := plain ⟨true, dX, [], []⟩
theorem topV_ok {r : Va} (hm : topV = some r) : Has Tryz.prog 24 [] fun s => s = .agg (uVa r) := by
 refine hs aa Tryz.f24 ?_
 unfold topV at hm
 refine z ?_
 replace hm := aG hm
 obtain ⟨v1, e1, hm⟩ := ae hm
 refine ce (ia e1) (z ?_)
 cases hm
 exact fc
def item (c : aT Va) (i : Int) : Option (Va × Bool) := if i ≥ 0 then (aN c.items).bind fun _ => if i < (c.items.length : Int) then (atI c.items i).bind fun x => some (x, true)
  else (aN c.rest).bind fun _ => if (c.rest.length : Int) > 0 then (atI c.rest 0).bind fun x => some (x, true) else some (zVa, false)
 else some (zVa, false)
theorem item_ok {c : aT Va} {i : Int} {r : Va × Bool} (hm : item c i = some r) : Has Tryz.prog 144 [.agg (aO eVa c), .int .i64 i] fun s => s = .tup [.agg (uVa r.1), .bool r.2] := by
 refine hs aa Tryz.f144 ?_
 unfold item at hm
 refine z ?_
 refine bkd (fun h1 => z ?_) (fun h1 => z ?_)
 rw [if_pos h1] at hm
 obtain ⟨hg2, hm⟩ := aj hm
 refine bkd (fun h3 => z ?_) (fun h3 => z ?_)
 rw [if_pos h3] at hm
 obtain ⟨j4, x4, en4, ex4, hm⟩ := aB hm
 refine bU (bX _) en4 ex4 rfl (z ?_)
 cases hm
 exact fc
 rw [if_neg h3] at hm
 obtain ⟨hg5, hm⟩ := aj hm
 refine bdt h1 (z ?_)
 refine bkd (fun h6 => z ?_) (fun h6 => z ?_)
 rw [if_pos h6] at hm
 obtain ⟨j7, x7, en7, ex7, hm⟩ := aB hm
 refine bU (bX _) en7 ex7 rfl (z ?_)
 cases hm
 exact fc
 rw [if_neg h6] at hm
 cases hm
 refine cP (z ?_)
 first | exact rfl | exact ⟨rfl, rfl⟩
 rw [if_neg h1] at hm
 refine bdf h1 (z ?_)
 cases hm
 refine cP (z ?_)
 first | exact rfl | exact ⟨rfl, rfl⟩
def wF (w : List UInt8) (i : Int) : List Sv.Edge → Option (Option Int)
 | [] => some none
 | e :: r => (atI w i).bind fun b => if e.lo ≤ b.toNat then if (b.toNat : Int) ≤ e.hi then some (some e.to) else wF w i r else wF w i r
def accL (l : List Stt) (w : List UInt8) : Nat → Int → Int → Option Bool
 | 0, _, s => (atI l s).bind fun x => some x.acc
 | n + 1, i, s => (atI l s).bind fun x => (aN x.aL).bind fun _ => (wF w i x.aL).bind fun p => match p with
  | some t => accL l w n (i + 1) t
  | none => some false
def accA (l : List Stt) (w : List UInt8) : Option Bool := (aN l).bind fun _ => if (l.length : Int) = 0 then some false else (wfM l).bind fun ok => if ok then (aN w).bind fun _ => accL l w w.length 0 0 else some false
theorem accA_ok {l : List Stt} {w : List UInt8} {r : Bool} (hm : accA l w = some r) : Has Tryz.prog 194 [.agg [aC l], .str w] fun s => s = .bool r := by
 refine hs aa Tryz.f194 ?_
 unfold accA at hm
 refine z ?_
 obtain ⟨hg1, hm⟩ := aj hm
 refine bkd (fun h2 => z ?_) (fun h2 => z ?_)
 rw [if_pos h2] at hm
 cases hm
 exact fc
 rw [if_neg h2] at hm
 obtain ⟨v3, e3, hm⟩ := ae hm
 refine ce (lp e3) (z ?_)
 refine bkm (fun h4 => z ?_) (fun h4 => z ?_)
 rw [if_neg (nt h4)] at hm
 cases hm
 exact fc
 rw [if_pos h4] at hm
 obtain ⟨hg5, hm⟩ := aj hm
 refine lg (α := Nat × Int) aa (fun (iw, s1) => (accL (l) (w) (w.length - iw) (iw : Int) s1 = some r, ⟨59, [(21, .int .i64 iw), (20, .int .i64 ↑w.length), (5, .int .i64 s1), (4, .bool false), (2, .ptr 0 0), (1, .str w)]⟩, ⟨[(0, .cells [aC l])], 1, 0, [], []⟩, (w.length) - iw)) ⟨(0, _), hm⟩ ?_
 rintro ⟨i6, s1_6⟩ hq6
 dsimp only at hq6
 refine z ?_
 refine bkd (fun h7 => z ?_) (fun h7 => z ?_)
 have h7' : (i6 : Int) < (((w.length) : Nat) : Int) := by (try simp only [List.length_map, List.length_replicate, List.length_set, List.length_append] at h7); omega
 rw [cB h7', accL] at hq6
 refine z ?_
 obtain ⟨j8, x8, en8, ex8, hq6⟩ := aB hq6
 refine bf en8 ex8 rfl (z ?_)
 obtain ⟨hg9, hq6⟩ := aj hq6
 refine a8 rfl rfl ?_
 obtain ⟨v10, hv10, hq6⟩ := ae hq6
 refine lg (α := Nat) aa (fun iw => (wF (w) (↑i6) (List.drop iw (x8.aL)) = some v10, ⟨59, [(31, .int .i64 iw), (30, .int .i64 ↑x8.aL.length), (29, .lst false (List.map ck x8.aL)), (6, .int .i64 ↑i6), (21, .int .i64 ↑i6), (20, .int .i64 ↑w.length), (5, .int .i64 s1_6), (4, .bool false), (2, .ptr 0 0), (1, .str w)]⟩, ⟨[(0, .cells [aC l])], 1, 0, [], []⟩, List.length (x8.aL) - iw)) ⟨(0), hv10⟩ ?_
 intro i10 hq10
 dsimp only at hq10
 refine z ?_
 refine bkd (fun h11 => z ?_) (fun h11 => z ?_)
 obtain ⟨x11, ex11, ed11⟩ := au h11
 rw [ed11, wF] at hq10
 refine z ?_
 refine a6 ex11 rfl (z ?_)
 refine dg aa [0,1,0,0,12,31,63,127,127,511,127,1151,4095,8191] [] (z ?_)
 obtain ⟨j12, x12, en12, ex12, hq10⟩ := aB hq10
 refine ⟨_, _, en12, ex12, ?_⟩
 refine z ?_
 refine bkd (fun h13 => z ?_) (fun h13 => z ?_)
 rw [if_pos h13] at hq10
 refine ⟨_, _, en12, ex12, ?_⟩
 refine z ?_
 refine bkd (fun h14 => z ?_) (fun h14 => z ?_)
 rw [if_pos h14] at hq10
 cases hq10
 dsimp only at hq6
 refine z ?_
 exact bk ⟨(i6 + 1, _), hq6⟩
 rw [if_neg h14] at hq10
 exact bk ⟨i10 + 1, hq10⟩
 rw [if_neg h13] at hq10
 exact bk ⟨i10 + 1, hq10⟩
 rw [av h11, wF] at hq10
 cases hq10
 dsimp only at hq6
 refine z ?_
 cases hq6
 exact fc
 have h7' : ¬ (i6 : Int) < (((w.length) : Nat) : Int) := by (try simp only [List.length_map, List.length_replicate, List.length_set, List.length_append] at h7); omega
 rw [cA h7', accL] at hq6
 refine z ?_
 obtain ⟨j15, x15, en15, ex15, hq6⟩ := aB hq6
 refine bf en15 ex15 rfl (z ?_)
 cases hq6
 exact fc
def qc (w : List UInt8) : List (Cls Va) → Option (Va × Int)
 | [] => some (zVa, 3)
 | k :: r => (accA k.set w).bind fun c => if c then some (k.val, 3) else qc w r
def qd (w : List UInt8) (ks : List (Cls Va)) : List (Fld Va) → Option (Va × Int)
 | [] => (aN ks).bind fun _ => qc w ks
 | f :: r => if f.label = w then some (f.val, f.fe) else qd w ks r
def view (c : aI Va) (w : List UInt8) : Option (Va × Int) := (aN c.fields).bind fun _ => qd w c.aA c.fields
theorem pB {c : aI Va} {w : List UInt8} {r : Va × Int} (hm : view c w = some r) : Has Tryz.prog 148 [.agg (aF eVa c), .str w] fun s => s = .tup [.agg (uVa r.1), .int .i64 r.2] := by
 refine hs aa Tryz.f148 ?_
 unfold view at hm
 refine z ?_
 obtain ⟨hg1, hm⟩ := aj hm
 refine lg (α := Nat) aa (fun iw => (qd (w) (c.aA) (List.drop iw (c.fields)) = some r, ⟨41, [(13, .int .i64 iw), (12, .int .i64 ↑c.fields.length), (11, .lst false (List.map (cC eVa) c.fields)), (5, .int .i64 0), (4, .ptr 1 0), (2, .ptr 0 0), (1, .str w)]⟩, ⟨[(1, .cells [.bool false, .bool false, .bool false, .bool false, .az, .az, .az, .az, .az, .bool false, .bool false, .bool false, .bool false, .az, .az, .az, .az, .az]), (0, .cells (aF eVa c))], 2, 0, [], []⟩, List.length (c.fields) - iw)) ⟨(0), hm⟩ ?_
 intro i2 hq2
 dsimp only at hq2
 refine z ?_
 refine bkd (fun h3 => z ?_) (fun h3 => z ?_)
 obtain ⟨x3, ex3, ed3⟩ := au h3
 rw [ed3, qd] at hq2
 refine z ?_
 refine bo (cq _) ex3 rfl (z ?_)
 refine bkd (fun h4 => z ?_) (fun h4 => z ?_)
 rw [if_pos h4] at hq2
 refine dg aa [0,1,0,4,3,31] [⟨4,0,0,[1]⟩] (z ?_)
 cases hq2
 exact fc
 rw [if_neg h4] at hq2
 exact bk ⟨i2 + 1, hq2⟩
 rw [av h3, qd] at hq2
 obtain ⟨hg5, hq2⟩ := aj hq2
 refine a8 rfl rfl ?_
 refine lg (α := Nat) aa (fun iw => (qc (w) (List.drop iw (c.aA)) = some r, ⟨41, [(29, .int .i64 iw), (28, .int .i64 ↑c.aA.length), (27, .lst false (List.map (cQ eVa) c.aA)), (5, .int .i64 0), (4, .ptr 1 0), (1, .str w)]⟩, ⟨[(1, .cells [.bool false, .bool false, .bool false, .bool false, .az, .az, .az, .az, .az, .bool false, .bool false, .bool false, .bool false, .az, .az, .az, .az, .az]), (0, .cells (aF eVa c))], 2, 0, [], []⟩, List.length (c.aA) - iw)) ⟨(0), hq2⟩ ?_
 intro i6 hq6
 dsimp only at hq6
 refine z ?_
 refine bkd (fun h7 => z ?_) (fun h7 => z ?_)
 obtain ⟨x7, ex7, ed7⟩ := au h7
 rw [ed7, qc] at hq6
 refine z ?_
 refine bo (bY _) ex7 rfl (z ?_)
 obtain ⟨v8, e8, hq6⟩ := ae hq6
 refine ce (accA_ok e8) (z ?_)
 refine brk (fun h9 => z ?_) (fun h9 => z ?_)
 rw [if_pos h9] at hq6
 cases hq6
 exact fc
 rw [if_neg (nt h9)] at hq6
 exact bk ⟨i6 + 1, hq6⟩
 rw [av h7, qc] at hq6
 cases hq6
 refine cP (z ?_)
 first | exact rfl | exact ⟨rfl, rfl⟩
theorem ctVa_ok {ll : List (List Va)} {r : List Va} (hm : ctM ll = some r) : Has Tryz.prog 159 [.lst false (ll.map (fK eVa))] fun s => s = .lst false (r.map eVa) := by
 refine hs aa Tryz.f159 ?_
 unfold ctM at hm
 refine z ?_
 obtain ⟨hg1, hm⟩ := aj hm
 obtain ⟨v2, hv2, hm⟩ := ae hm
 refine lg (α := Nat × Int) aa (fun (iw, s1) => (ctL (List.drop iw (ll)) s1 = some v2, ⟨36, [(11, .int .i64 iw), (10, .int .i64 ↑ll.length), (9, .lst false (List.map (fK eVa) ll)), (3, .int .i64 s1), (2, .az), (0, .lst false (List.map (fK eVa) ll))]⟩, ⟨[], 0, 0, [], []⟩, List.length (ll) - iw)) ⟨(0, _), hv2⟩ ?_
 rintro ⟨i2, s1_2⟩ hq2
 dsimp only at hq2
 refine z ?_
 refine bkd (fun h3 => z ?_) (fun h3 => z ?_)
 obtain ⟨x3, ex3, ed3⟩ := au h3
 rw [ed3, ctL] at hq2
 refine z ?_
 obtain ⟨hg4, hq2⟩ := aj hq2
 obtain ⟨hg5, hq2⟩ := aj hq2
 refine a6 ex3 rfl (z ?_)
 refine bkd (fun h6 => z ?_) (fun h6 => z ?_)
 rw [if_pos h6] at hq2
 cases hq2
 rw [if_neg h6] at hq2
 exact bk ⟨(i2 + 1, _), hq2⟩
 rw [av h3, ctL] at hq2
 cases hq2
 refine z ?_
 refine ci aa Tryz.f200 (z ?_)
 obtain ⟨hg7, hm⟩ := aj hm
 refine bkd (fun h8 => z ?_) (fun h8 => z ?_)
 rw [if_pos h8] at hm
 cases hm
 rw [if_neg h8] at hm
 refine fj (z ?_)
 refine ⟨by simp only [InR, List.length_map, List.length_nil, List.length_cons, List.length_singleton, List.length_append]; omega, ?_⟩
 refine z ?_
 refine ⟨by simp only [InR, List.length_map, List.length_nil, List.length_cons, List.length_singleton, List.length_append]; omega, ?_⟩
 refine z ?_
 refine bkd (fun h9 => z ?_) (fun h9 => z ?_)
 refine ⟨v2.toNat, by simp only [List.length_nil] at *; omega, by simp only [List.length_nil] at *; omega, by omega, zt ?_⟩
 refine z ?_
 refine fj (z ?_)
 refine ⟨0, rfl, Nat.zero_le _, as_go (List.map eVa []) rfl ?_⟩
 refine z ?_
 refine ei (z ?_)
 refine lg (α := Nat × List Va × Nat) aa (fun (iw, s1, ts1) => (ctA (List.drop iw (ll)) s1 = some r, ⟨36, [(27, .int .i64 iw), (26, .int .i64 ↑ll.length), (25, .lst false (List.map (fK eVa) ll)), (6, .own 0 ts1), (2, .az)]⟩, ⟨[(0, .row 18 (s1.map eVa) ts1 false)], 1, 0, [], []⟩, List.length (ll) - iw)) ⟨(0, _, (1)), hm⟩ ?_
 rintro ⟨i10, s1_10, ts1_10⟩ hq10
 dsimp only at hq10
 refine z ?_
 refine bkd (fun h11 => z ?_) (fun h11 => z ?_)
 obtain ⟨x11, ex11, ed11⟩ := au h11
 rw [ed11, ctA] at hq10
 refine z ?_
 refine a6 ex11 rfl (z ?_)
 obtain ⟨hg12, hq10⟩ := dN hq10
 refine z ?_
 refine hM (z ?_)
 exact bk ⟨(i10 + 1, _, (ts1_10 + 1)), hq10⟩
 rw [av h11, ctA] at hq10
 cases hq10
 refine cP (z ?_)
 first | exact e2 | exact rfl
 refine z ?_
 refine ei (z ?_)
 refine b0 6 18 rfl ?_
 refine lg (α := Nat × List Va × Nat) aa (fun (iw, s1, ts1) => (ctA (List.drop iw (ll)) s1 = some r, ⟨36, [(6, .own 0 ts1), (27, .int .i64 iw), (26, .int .i64 ↑ll.length), (25, .lst false (List.map (fK eVa) ll)), (2, .az)]⟩, ⟨[(0, .row 18 (s1.map eVa) ts1 false)], 1, 0, [], []⟩, List.length (ll) - iw)) ⟨(0, _, (0)), hm⟩ ?_
 rintro ⟨i13, s1_13, ts1_13⟩ hq13
 dsimp only at hq13
 refine z ?_
 refine bkd (fun h14 => z ?_) (fun h14 => z ?_)
 obtain ⟨x14, ex14, ed14⟩ := au h14
 rw [ed14, ctA] at hq13
 refine z ?_
 refine a6 ex14 rfl (z ?_)
 obtain ⟨hg15, hq13⟩ := dN hq13
 refine z ?_
 refine hM (z ?_)
 exact bk ⟨(i13 + 1, _, (ts1_13 + 1)), hq13⟩
 rw [av h14, ctA] at hq13
 cases hq13
 refine cP (z ?_)
 first | exact e2 | exact rfl
theorem concVa_ok {a b r : List Va} (hm : jU a b = some r) : Has Tryz.prog 159 [.lst false [[.lst false (a.map eVa)], [.lst false (b.map eVa)]]] fun s => s = .lst false (r.map eVa) := ctVa_ok (rM hm)
def eH (c : aT Va) : Option (List Va) := jU c.items c.rest
theorem fG {c : aT Va} {r : List Va} (hm : eH c = some r) : Has Tryz.prog 111 [.agg (aO eVa c)] fun s => s = .lst false (r.map eVa) := by
 refine hs aa Tryz.f111 ?_
 unfold eH at hm
 refine z ?_
 replace hm := aG hm
 obtain ⟨v1, e1, hm⟩ := ae hm
 refine eA (concVa_ok e1) (z ?_)
 cases hm
 exact fc
def svK : List (Cls Va) → List Va → Option (List Va)
 | [], out => some out
 | k :: r, out => (push out k.val).bind fun out => svK r out
def svF (ks : List (Cls Va)) : List (Fld Va) → List Va → Option (List Va)
 | [], out => (aN ks).bind fun _ => svK ks out
 | f :: r, out => (push out f.val).bind fun out => svF ks r out
def gm (c : aI Va) : Option (List Va) := (aN c.fields).bind fun _ => svF c.aA c.fields []
theorem sP {c : aI Va} {r : List Va} (hm : gm c = some r) : Has Tryz.prog 185 [.agg (aF eVa c)] fun s => s = .lst false (r.map eVa) := by
 refine hs aa Tryz.f185 ?_
 unfold gm at hm
 refine z ?_
 obtain ⟨hg1, hm⟩ := aj hm
 refine b0 3 18 rfl ?_
 refine lg (α := Nat × List Va × Nat) aa (fun (iw, s1, ts1) => (svF (c.aA) (List.drop iw (c.fields)) s1 = some r, ⟨35, [(3, .own 1 ts1), (11, .int .i64 iw), (10, .int .i64 ↑c.fields.length), (9, .lst false (List.map (cC eVa) c.fields)), (2, .az), (1, .ptr 0 0)]⟩, ⟨[(1, .row 18 (s1.map eVa) ts1 false), (0, .cells (aF eVa c))], 2, 0, [], []⟩, List.length (c.fields) - iw)) ⟨(0, _, (0)), hm⟩ ?_
 rintro ⟨i2, s1_2, ts1_2⟩ hq2
 dsimp only at hq2
 refine z ?_
 refine bkd (fun h3 => z ?_) (fun h3 => z ?_)
 obtain ⟨x3, ex3, ed3⟩ := au h3
 rw [ed3, svF] at hq2
 refine z ?_
 refine bo (cq _) ex3 rfl (z ?_)
 obtain ⟨hg4, hq2⟩ := aD hq2
 refine z ?_
 refine aH (x3.val) (bX _) (z ?_)
 exact bk ⟨(i2 + 1, _, (ts1_2 + 1)), hq2⟩
 rw [av h3, svF] at hq2
 obtain ⟨hg5, hq2⟩ := aj hq2
 refine a8 rfl rfl ?_
 refine lg (α := Nat × List Va × Nat) aa (fun (iw, s1, ts1) => (svK (List.drop iw (c.aA)) s1 = some r, ⟨35, [(24, .int .i64 iw), (23, .int .i64 ↑c.aA.length), (22, .lst false (List.map (cQ eVa) c.aA)), (3, .own 1 ts1), (2, .az)]⟩, ⟨[(1, .row 18 (s1.map eVa) ts1 false), (0, .cells (aF eVa c))], 2, 0, [], []⟩, List.length (c.aA) - iw)) ⟨(0, _, (ts1_2)), hq2⟩ ?_
 rintro ⟨i6, s1_6, ts1_6⟩ hq6
 dsimp only at hq6
 refine z ?_
 refine bkd (fun h7 => z ?_) (fun h7 => z ?_)
 obtain ⟨x7, ex7, ed7⟩ := au h7
 rw [ed7, svK] at hq6
 refine z ?_
 refine bo (bY _) ex7 rfl (z ?_)
 obtain ⟨hg8, hq6⟩ := aD hq6
 refine z ?_
 refine aH (x7.val) (bX _) (z ?_)
 exact bk ⟨(i6 + 1, _, (ts1_6 + 1)), hq6⟩
 rw [av h7, svK] at hq6
 cases hq6
 refine cP (z ?_)
 first | exact e2 | exact rfl
def chS : List (aI Va) → List Va → Option (List Va)
 | [], out => some out
 | c :: r, out => (gm c).bind fun l => (jF out l).bind fun out => chS r out
def chL (ss : List (aI Va)) : List (aT Va) → List Va → Option (List Va)
 | [], out => (aN ss).bind fun _ => chS ss out
 | c :: r, out => (eH c).bind fun l => (jF out l).bind fun out => chL ss r out
def r4 (v : Vlu Va) : Option (List Va) := (aN v.lists).bind fun _ => chL v.structs v.lists []
theorem childV_ok {v : Vlu Va} {r : List Va} (hm : r4 v = some r) : Has Tryz.prog 135 [.agg (bM eVa v)] fun s => s = .lst false (r.map eVa) := by
 refine hs aa Tryz.f135 ?_
 unfold r4 at hm
 refine z ?_
 obtain ⟨hg1, hm⟩ := aj hm
 refine b0 3 18 rfl ?_
 refine lg (α := Nat × List Va × Nat) aa (fun (iw, s1, ts1) => (chL (v.structs) (List.drop iw (v.lists)) s1 = some r, ⟨33, [(3, .own 1 ts1), (11, .int .i64 iw), (10, .int .i64 ↑v.lists.length), (9, .lst false (List.map (aO eVa) v.lists)), (2, .az), (1, .ptr 0 0)]⟩, ⟨[(1, .row 18 (s1.map eVa) ts1 false), (0, .cells (bM eVa v))], 2, 0, [], []⟩, List.length (v.lists) - iw)) ⟨(0, _, (0)), hm⟩ ?_
 rintro ⟨i2, s1_2, ts1_2⟩ hq2
 dsimp only at hq2
 refine z ?_
 refine bkd (fun h3 => z ?_) (fun h3 => z ?_)
 obtain ⟨x3, ex3, ed3⟩ := au h3
 rw [ed3, chL] at hq2
 refine z ?_
 refine a6 ex3 rfl (z ?_)
 obtain ⟨v4, e4, hq2⟩ := ae hq2
 refine ce (fG e4) (z ?_)
 obtain ⟨hg5, hq2⟩ := dN hq2
 refine z ?_
 refine hM (z ?_)
 exact bk ⟨(i2 + 1, _, (ts1_2 + 1)), hq2⟩
 rw [av h3, chL] at hq2
 obtain ⟨hg6, hq2⟩ := aj hq2
 refine a8 rfl rfl ?_
 refine lg (α := Nat × List Va × Nat) aa (fun (iw, s1, ts1) => (chS (List.drop iw (v.structs)) s1 = some r, ⟨33, [(23, .int .i64 iw), (22, .int .i64 ↑v.structs.length), (21, .lst false (List.map (aF eVa) v.structs)), (3, .own 1 ts1), (2, .az)]⟩, ⟨[(1, .row 18 (s1.map eVa) ts1 false), (0, .cells (bM eVa v))], 2, 0, [], []⟩, List.length (v.structs) - iw)) ⟨(0, _, (ts1_2)), hq2⟩ ?_
 rintro ⟨i7, s1_7, ts1_7⟩ hq7
 dsimp only at hq7
 refine z ?_
 refine bkd (fun h8 => z ?_) (fun h8 => z ?_)
 obtain ⟨x8, ex8, ed8⟩ := au h8
 rw [ed8, chS] at hq7
 refine z ?_
 refine a6 ex8 rfl (z ?_)
 obtain ⟨v9, e9, hq7⟩ := ae hq7
 refine ce (sP e9) (z ?_)
 obtain ⟨hg10, hq7⟩ := dN hq7
 refine z ?_
 refine hM (z ?_)
 exact bk ⟨(i7 + 1, _, (ts1_7 + 1)), hq7⟩
 rw [av h8, chS] at hq7
 cases hq7
 refine cP (z ?_)
 first | exact e2 | exact rfl
def fld1 (l : List (Fld Va)) (f : Fld Va) (i : Int) : Option Bool := if i > 0 then (cX (i - 1)).bind fun _ => (atI l (i - 1)).bind fun p => some (Op.bytesLess p.label f.label) else some true
def vO (l : List (Fld Va)) : List (Fld Va) → Int → Option Bool
 | [], _ => some true
 | f :: r, i => if f.fe = 1 then (fld1 l f i).bind fun c => if c then vO l r (i + 1) else some false else if f.fe = 2 then (fld1 l f i).bind fun c => if c then vO l r (i + 1) else some false else some false
def mV (l : List (Fld Va)) : Option Bool := (aN l).bind fun _ => vO l l 0
theorem fieldsV_ok {l : List (Fld Va)} {r : Bool} (hm : mV l = some r) : Has Tryz.prog 183 [.lst false (l.map (cC eVa))] fun s => s = .bool r := by
 refine hs aa Tryz.f183 ?_
 unfold mV at hm
 refine z ?_
 obtain ⟨hg1, hm⟩ := aj hm
 refine lg (α := Nat) aa (fun iw => (vO (l) (List.drop iw (l)) (iw : Int) = some r, ⟨36, [(7, .int .i64 iw), (6, .int .i64 ↑l.length), (5, .lst false (List.map (cC eVa) l)), (2, .bool false), (0, .lst false (List.map (cC eVa) l))]⟩, ⟨[], 0, 0, [], []⟩, List.length (l) - iw)) ⟨(0), hm⟩ ?_
 intro i2 hq2
 dsimp only at hq2
 refine z ?_
 refine bkd (fun h3 => z ?_) (fun h3 => z ?_)
 obtain ⟨x3, ex3, ed3⟩ := au h3
 rw [ed3, vO] at hq2
 refine z ?_
 refine bo (cq _) ex3 rfl (z ?_)
 refine dg aa [0,1,3,7,15,31,63,127,255,511,1023,2047,4095,4095,12287,32767,65535,131071,4095,266239,1048575,2097151,4194303] [] (z ?_)
 refine bkn (fun h4 => z ?_) (fun h4 => z ?_)
 rw [if_neg h4] at hq2
 refine bkn (fun h5 => z ?_) (fun h5 => z ?_)
 rw [if_neg h5] at hq2
 cases hq2
 exact fc
 rw [if_pos h5] at hq2
 unfold fld1 at hq2
 refine z ?_
 refine bkd (fun h6 => z ?_) (fun h6 => z ?_)
 rw [if_pos h6] at hq2
 rw [Option.bind_assoc] at hq2
 refine z ?_
 obtain ⟨hg7, hq2⟩ := aj hq2
 rw [Option.bind_assoc] at hq2
 obtain ⟨j8, x8, en8, ex8, hq2⟩ := aB hq2
 refine bU (cq _) en8 ex8 rfl ?_
 dsimp only [Option.bind_some] at hq2
 refine z ?_
 refine bkm (fun h9 => z ?_) (fun h9 => z ?_)
 rw [if_neg (nt h9)] at hq2
 cases hq2
 exact fc
 rw [if_pos h9] at hq2
 exact bk ⟨i2 + 1, hq2⟩
 rw [if_neg h6] at hq2
 dsimp only [Option.bind_some] at hq2
 rw [if_pos rfl] at hq2
 exact bk ⟨i2 + 1, hq2⟩
 rw [if_pos h4] at hq2
 unfold fld1 at hq2
 refine z ?_
 refine bkd (fun h10 => z ?_) (fun h10 => z ?_)
 rw [if_pos h10] at hq2
 rw [Option.bind_assoc] at hq2
 refine z ?_
 obtain ⟨hg11, hq2⟩ := aj hq2
 rw [Option.bind_assoc] at hq2
 obtain ⟨j12, x12, en12, ex12, hq2⟩ := aB hq2
 refine bU (cq _) en12 ex12 rfl ?_
 dsimp only [Option.bind_some] at hq2
 refine z ?_
 refine bkm (fun h13 => z ?_) (fun h13 => z ?_)
 rw [if_neg (nt h13)] at hq2
 cases hq2
 exact fc
 rw [if_pos h13] at hq2
 exact bk ⟨i2 + 1, hq2⟩
 rw [if_neg h10] at hq2
 dsimp only [Option.bind_some] at hq2
 rw [if_pos rfl] at hq2
 exact bk ⟨i2 + 1, hq2⟩
 rw [av h3, vO] at hq2
 cases hq2
 exact fc
end Go.Proofs.YtmjddpeookapaaaGreatDoor
