/- For ConcreteHidden: functions of the program, walked beside Lean functions that say what they compute. -/
import Derived.Test.YtmjddpeookapaaaGreatDoorEn
import Derived.KernelRfl
import Derived.Test.YtmjddpeookapaaaGreatDoorMd
import Derived.Test.YtmjddpeookapaaaGreatDoorCL
import Derived.Test.YtmjddpeookapaaaGreatDoorSvG
set_option linter.unusedVariables false
set_option linter.unusedSimpArgs false
set_option linter.unusedSectionVars false
namespace Go.Proofs.YtmjddpeookapaaaGreatDoor
open Sv
set_option maxRecDepth 100000
set_option maxHeartbeats 2000000
def rT (x y : List UInt8) : Option Int := (nanS x).bind fun a => (nanS y).bind fun b => if a then if b then some 0 else some (-1) else if b then some 1 else if Op.bytesLess x y then some (-1) else if Op.bytesLess x y || decide (x = y) then some 0 else some 1
theorem cmpS_ok {x y : List UInt8} {r : Int} (hm : rT x y = some r) : Has Tryz.prog 190 [.str x, .str y] fun s => s = .int .i64 r := by
 refine hs aa Tryz.f190 ?_
 unfold rT at hm
 refine z ?_
 obtain ⟨v1, e1, hm⟩ := ae hm
 refine ce (nanS_ok e1) (z ?_)
 obtain ⟨v2, e2, hm⟩ := ae hm
 refine ce (nanS_ok e2) (z ?_)
 refine brk (fun h3 => z ?_) (fun h3 => z ?_)
 rw [if_pos h3] at hm
 refine brk (fun h4 => z ?_) (fun h4 => z ?_)
 rw [if_pos h4] at hm
 cases hm
 exact fc
 rw [if_neg (nt h4)] at hm
 cases hm
 exact fc
 rw [if_neg (nt h3)] at hm
 refine brk (fun h5 => z ?_) (fun h5 => z ?_)
 rw [if_pos h5] at hm
 cases hm
 exact fc
 rw [if_neg (nt h5)] at hm
 refine brk (fun h6 => z ?_) (fun h6 => z ?_)
 rw [if_pos h6] at hm
 cases hm
 exact fc
 rw [if_neg (nt h6)] at hm
 refine bkm (fun h7 => z ?_) (fun h7 => z ?_)
 rw [if_neg (nt h7)] at hm
 cases hm
 exact fc
 rw [if_pos h7] at hm
 cases hm
 exact fc
def orIL : List Int → Option Int
 | [] => some 0
 | x :: r => if x = 0 then orIL r else some x
def orI (l : List Int) : Option Int := (aN l).bind fun _ => orIL l
theorem orI_ok {l : List Int} {r : Int} (hm : orI l = some r) : Has Tryz.prog 188 [.lst false (l.map bt)] fun s => s = .int .i64 r := by
 refine hs aa Tryz.f188 ?_
 unfold orI at hm
 refine z ?_
 obtain ⟨hg1, hm⟩ := aj hm
 refine lg (α := Nat) aa (fun iw => (orIL (List.drop iw (l)) = some r, ⟨18, [(8, .int .i64 iw), (7, .int .i64 ↑l.length), (6, .lst false (List.map bt l)), (3, .int .i64 0), (2, .int .i64 0)]⟩, ⟨[], 0, 0, [], []⟩, List.length (l) - iw)) ⟨(0), hm⟩ ?_
 intro i2 hq2
 dsimp only at hq2
 refine z ?_
 refine bkd (fun h3 => z ?_) (fun h3 => z ?_)
 obtain ⟨x3, ex3, ed3⟩ := au h3
 rw [ed3, orIL] at hq2
 refine z ?_
 refine a6 ex3 rfl (z ?_)
 refine bkn (fun h4 => z ?_) (fun h4 => z ?_)
 rw [if_neg h4] at hq2
 cases hq2
 exact fc
 rw [if_pos h4] at hq2
 exact bk ⟨i2 + 1, hq2⟩
 rw [av h3, orIL] at hq2
 cases hq2
 exact fc
def ze (a b : List Stt) : Option Int := (fI a).bind fun a => (fI b).bind fun b => (jI a b).bind fun x => (lV x).bind fun p => (jI b a).bind fun y => (lV y).bind fun q =>
 if p.2 then if q.2 then (aN p.1).bind fun _ => (aN q.1).bind fun _ => (rW p.1.length q.1.length).bind fun c => (rT p.1 q.1).bind fun d => orI [c, d] else some (-1) else if q.2 then some 1 else some 0
theorem vZ {a b : List Stt} {r : Int} (hm : ze a b = some r) : aY Tryz.prog 140 [.agg [aC a], .agg [aC b]] fun s => s = .int .i64 r := by
 refine ht aa Tryz.f140 ?_
 unfold ze at hm
 refine z ?_
 refine dg aa [0,1,0,7,15,31] [] (z ?_)
 obtain ⟨v1, e1, hm⟩ := ae hm
 refine ct (fH e1) (z ?_)
 obtain ⟨v2, e2, hm⟩ := ae hm
 refine ct (fH e2) (z ?_)
 obtain ⟨v3, e3, hm⟩ := ae hm
 refine ct (kL e3) (z ?_)
 obtain ⟨v4, e4, hm⟩ := ae hm
 refine ct (nV e4) (z ?_)
 obtain ⟨v5, e5, hm⟩ := ae hm
 refine ct (kL e5) (z ?_)
 obtain ⟨v6, e6, hm⟩ := ae hm
 refine ct (nV e6) (z ?_)
 refine bkm (fun h7 => z ?_) (fun h7 => z ?_)
 rw [if_neg (nt h7)] at hm
 refine bkm (fun h8 => z ?_) (fun h8 => z ?_)
 rw [if_neg (nt h8)] at hm
 cases hm
 exact mst
 rw [if_pos h8] at hm
 refine bmf h8 (z ?_)
 refine bmt h7 (z ?_)
 cases hm
 exact mst
 rw [if_pos h7] at hm
 refine bkm (fun h9 => z ?_) (fun h9 => z ?_)
 rw [if_neg (nt h9)] at hm
 cases hm
 exact mst
 rw [if_pos h9] at hm
 obtain ⟨hg10, hm⟩ := aj hm
 obtain ⟨hg11, hm⟩ := aj hm
 refine bmf h7 (z ?_)
 obtain ⟨v12, e12, hm⟩ := ae hm
 refine ce (wa e12) (z ?_)
 obtain ⟨v13, e13, hm⟩ := ae hm
 refine ce (cmpS_ok e13) (z ?_)
 replace hm := aG hm
 obtain ⟨v14, e14, hm⟩ := ae hm
 refine bH (orI_ok e14) rfl (z ?_)
 cases hm
 exact mst
def fixV (u : Int) : Option Bool := if u ≥ -1000000000000000 then some (decide (u ≤ 1000000000000000)) else some false
theorem fixV_ok {u : Int} {r : Bool} (hm : fixV u = some r) : Has Tryz.prog 83 [.int .i64 u] fun s => s = .bool r := by
 refine hs aa Tryz.f83 ?_
 unfold fixV at hm
 refine z ?_
 refine bkd (fun h1 => z ?_) (fun h1 => z ?_)
 rw [if_pos h1] at hm
 cases hm
 exact fc
 rw [if_neg h1] at hm
 cases hm
 exact fc
def lZ (u : Int) : Option Int := (cX (u.tdiv 10000)).bind fun _ => if u.tmod 10000 < 0 then (cX (u.tdiv 10000 - 1)).bind fun _ => some (u.tdiv 10000 - 1) else some (u.tdiv 10000)
theorem rC {u r : Int} (hm : lZ u = some r) : Has Tryz.prog 130 [.int .i64 u] fun s => s = .int .i64 r := by
 refine hs aa Tryz.f130 ?_
 unfold lZ at hm
 refine z ?_
 obtain ⟨hg1, hm⟩ := aj hm
 refine z ?_
 refine bkd (fun h2 => z ?_) (fun h2 => z ?_)
 rw [if_pos h2] at hm
 obtain ⟨hg3, hm⟩ := aj hm
 refine z ?_
 cases hm
 exact fc
 rw [if_neg h2] at hm
 cases hm
 exact fc
def rr (v : List UInt8) : List (List UInt8) → Int → Option Int
 | [], _ => some (-1)
 | x :: r, i => if v = x then some i else rr v r (i + 1)
def idxS (l : List (List UInt8)) (v : List UInt8) : Option Int := (aN l).bind fun _ => rr v l 0
theorem idxS_ok {l : List (List UInt8)} {v : List UInt8} {r : Int} (hm : idxS l v = some r) : Has Tryz.prog 177 [.lst false (l.map jR), .str v] fun s => s = .int .i64 r := by
 refine hs aa Tryz.f177 ?_
 unfold idxS at hm
 refine z ?_
 obtain ⟨hg1, hm⟩ := aj hm
 refine lg (α := Nat) aa (fun iw => (rr (v) (List.drop iw (l)) (iw : Int) = some r, ⟨19, [(8, .int .i64 iw), (7, .int .i64 ↑l.length), (4, .int .i64 0), (0, .lst false (List.map jR l)), (1, .str v)]⟩, ⟨[], 0, 0, [], []⟩, List.length (l) - iw)) ⟨(0), hm⟩ ?_
 intro i2 hq2
 dsimp only at hq2
 refine z ?_
 refine bkd (fun h3 => z ?_) (fun h3 => z ?_)
 obtain ⟨x3, ex3, ed3⟩ := au h3
 rw [ed3, rr] at hq2
 refine z ?_
 refine a6 ex3 rfl (z ?_)
 refine bkd (fun h4 => z ?_) (fun h4 => z ?_)
 rw [if_pos h4] at hq2
 cases hq2
 exact fc
 rw [if_neg h4] at hq2
 exact bk ⟨i2 + 1, hq2⟩
 rw [av h3, rr] at hq2
 cases hq2
 exact fc
def conS (l : List (List UInt8)) (v : List UInt8) : Option Bool := (idxS l v).bind fun i => some (decide (i ≥ 0))
theorem conS_ok {l : List (List UInt8)} {v : List UInt8} {r : Bool} (hm : conS l v = some r) : Has Tryz.prog 129 [.lst false (l.map jR), .str v] fun s => s = .bool r := by
 refine hs aa Tryz.f129 ?_
 unfold conS at hm
 refine z ?_
 obtain ⟨v1, e1, hm⟩ := ae hm
 refine ce (idxS_ok e1) (z ?_)
 cases hm
 exact fc
def p7 (s : List UInt8) : Nat → Int → List Stt → Option (List Stt)
 | 0, _, out => some out
 | n + 1, i, out => (atI s i).bind fun b => (push out ⟨false, [⟨b.toNat, b.toNat, i + 1⟩]⟩).bind fun out => p7 s n (i + 1) out
def tu (s : List UInt8) : Option (List Stt) := (aN s).bind fun _ => (p7 s s.length 0 []).bind fun out => push out ⟨true, []⟩
theorem word_ok {s : List UInt8} {r : List Stt} (hm : tu s = some r) : Has Tryz.prog 47 [.str s] fun v => v = .agg [aC r] := by
 refine hs aa Tryz.f47 ?_
 unfold tu at hm
 refine z ?_
 obtain ⟨hg1, hm⟩ := aj hm
 obtain ⟨v2, hv2, hm⟩ := ae hm
 refine bj 1 0 2 rfl rfl ?_
 refine lg (α := Nat × List Stt × Nat) aa (fun (iw, s1, ts1) => (p7 (s) (s.length - iw) (iw : Int) s1 = some v2, ⟨34, [(7, .int .i64 iw), (6, .int .i64 ↑s.length), (3, .ptr 1 0), (2, .ptr 0 0), (0, .str s)]⟩, ⟨[(2, .row 2 (s1.map fu) ts1 false), (1, .cells [.own 2 ts1]), (0, .cells [.az])], 3, 0, [], []⟩, (s.length) - iw)) ⟨(0, _, (0)), hv2⟩ ?_
 rintro ⟨i2, s1_2, ts1_2⟩ hq2
 dsimp only at hq2
 refine z ?_
 refine bkd (fun h3 => z ?_) (fun h3 => z ?_)
 have h3' : (i2 : Int) < (((s.length) : Nat) : Int) := by (try simp only [List.length_map, List.length_replicate, List.length_set, List.length_append] at h3); omega
 rw [cB h3', p7] at hq2
 refine z ?_
 refine dg aa [0,1,0,0,12,0,0,96,0,256,1020,2044,4092,8188,16383,32767,65535] [⟨16,0,0,[1]⟩,⟨14,0,0,[2]⟩,⟨13,0,0,[3]⟩] (z ?_)
 obtain ⟨j6, x6, en6, ex6, hq2⟩ := aB hq2
 refine ⟨_, _, en6, ex6, ?_⟩
 refine z ?_
 refine ⟨_, _, en6, ex6, ?_⟩
 refine z ?_
 obtain ⟨hg7, hq2⟩ := aD hq2
 refine z ?_
 refine aH ({ acc := false, aL := [{ lo := ↑x6.toNat, hi := ↑x6.toNat, to := ↑i2 + 1 }] }) rfl (z ?_)
 exact bk ⟨(i2 + 1, _, (ts1_2 + 1)), hq2⟩
 have h3' : ¬ (i2 : Int) < (((s.length) : Nat) : Int) := by (try simp only [List.length_map, List.length_replicate, List.length_set, List.length_append] at h3); omega
 rw [cA h3', p7] at hq2
 cases hq2
 refine z ?_
 replace hm := aG hm
 obtain ⟨hg9, hm⟩ := aD hm
 refine z ?_
 refine aH ({ acc := true, aL := [] }) rfl (z ?_)
 cases hm
 refine cP (z ?_)
 first | exact e2 | exact rfl
def oL (d : dH Dat) : Option Bool := if d.str = [] then if (d.items.length : Int) = 0 then some (decide ((d.members.length : Int) = 0)) else some false else some false
def ya (d : dH Dat) : Option Bool := (aN d.items).bind fun _ => (aN d.members).bind fun _ =>
 if d.kind = 2 then oL d else if d.kind = 3 then oL d else
 if d.kind = 4 then if d.num = 0 then if (d.items.length : Int) = 0 then some (decide ((d.members.length : Int) = 0)) else some false else some false else
 if d.kind = 5 then if d.num = 0 then if d.str = [] then some (decide ((d.members.length : Int) = 0)) else some false else some false else
 if d.kind = 6 then if d.num = 0 then if d.str = [] then if (d.items.length : Int) = 0 then some true else some false else some false else some false else
 if d.kind = 1 then if d.num = 0 then oL d else some false else some false
theorem onlyD_ok {d : dH Dat} {r : Bool} (hm : ya d = some r) : Has Tryz.prog 82 [.agg (fR dk d)] fun s => s = .bool r := by
 refine hs aa Tryz.f82 ?_
 unfold ya at hm
 refine z ?_
 refine dg aa [0,1,3,0,8,24,0,64,192,448,0,1024,3072,7168,7,16447,50175,131071] [] (z ?_)
 obtain ⟨hg1, hm⟩ := aj hm
 obtain ⟨hg2, hm⟩ := aj hm
 refine bkd (fun h3 => z ?_) (fun h3 => z ?_)
 rw [if_pos h3] at hm
 unfold oL at hm
 refine z ?_
 refine bkd (fun h4 => z ?_) (fun h4 => z ?_)
 rw [if_pos h4] at hm
 refine bkd (fun h5 => z ?_) (fun h5 => z ?_)
 rw [if_pos h5] at hm
 cases hm
 exact fc
 rw [if_neg h5] at hm
 cases hm
 exact fc
 rw [if_neg h4] at hm
 cases hm
 exact fc
 rw [if_neg h3] at hm
 refine bkd (fun h6 => z ?_) (fun h6 => z ?_)
 rw [if_pos h6] at hm
 unfold oL at hm
 refine z ?_
 refine bkd (fun h7 => z ?_) (fun h7 => z ?_)
 rw [if_pos h7] at hm
 refine bkd (fun h8 => z ?_) (fun h8 => z ?_)
 rw [if_pos h8] at hm
 cases hm
 exact fc
 rw [if_neg h8] at hm
 cases hm
 exact fc
 rw [if_neg h7] at hm
 cases hm
 exact fc
 rw [if_neg h6] at hm
 refine bkd (fun h9 => z ?_) (fun h9 => z ?_)
 rw [if_pos h9] at hm
 refine bkd (fun h10 => z ?_) (fun h10 => z ?_)
 rw [if_pos h10] at hm
 refine bkd (fun h11 => z ?_) (fun h11 => z ?_)
 rw [if_pos h11] at hm
 cases hm
 exact fc
 rw [if_neg h11] at hm
 cases hm
 exact fc
 rw [if_neg h10] at hm
 cases hm
 exact fc
 rw [if_neg h9] at hm
 refine bkd (fun h12 => z ?_) (fun h12 => z ?_)
 rw [if_pos h12] at hm
 refine bkd (fun h13 => z ?_) (fun h13 => z ?_)
 rw [if_pos h13] at hm
 refine bkd (fun h14 => z ?_) (fun h14 => z ?_)
 rw [if_pos h14] at hm
 cases hm
 exact fc
 rw [if_neg h14] at hm
 cases hm
 exact fc
 rw [if_neg h13] at hm
 cases hm
 exact fc
 rw [if_neg h12] at hm
 refine bkd (fun h15 => z ?_) (fun h15 => z ?_)
 rw [if_pos h15] at hm
 refine bkd (fun h16 => z ?_) (fun h16 => z ?_)
 rw [if_pos h16] at hm
 refine bkd (fun h17 => z ?_) (fun h17 => z ?_)
 rw [if_pos h17] at hm
 refine bkd (fun h18 => z ?_) (fun h18 => z ?_)
 rw [if_pos h18] at hm
 cases hm
 exact fc
 rw [if_neg h18] at hm
 cases hm
 exact fc
 rw [if_neg h17] at hm
 cases hm
 exact fc
 rw [if_neg h16] at hm
 cases hm
 exact fc
 rw [if_neg h15] at hm
 refine bkd (fun h19 => z ?_) (fun h19 => z ?_)
 rw [if_pos h19] at hm
 refine bkd (fun h20 => z ?_) (fun h20 => z ?_)
 rw [if_pos h20] at hm
 unfold oL at hm
 refine z ?_
 refine bkd (fun h21 => z ?_) (fun h21 => z ?_)
 rw [if_pos h21] at hm
 refine bkd (fun h22 => z ?_) (fun h22 => z ?_)
 rw [if_pos h22] at hm
 cases hm
 exact fc
 rw [if_neg h22] at hm
 cases hm
 exact fc
 rw [if_neg h21] at hm
 cases hm
 exact fc
 rw [if_neg h20] at hm
 cases hm
 exact fc
 rw [if_neg h19] at hm
 cases hm
 exact fc
def ig (l : List (Mem Dat)) : Nat → Int → Option Int
 | 0, _ => none
 | n + 1, i => if i < (l.length : Int) then (cX (i - 1)).bind fun _ => (atI l (i - 1)).bind fun x => (atI l i).bind fun y => if Op.bytesLess x.label y.label then ig l n (i + 1) else some 6 else some 0
def ownD (d : dH Dat) : Option Int := (ya d).bind fun ok => if ok then
  if d.kind = 2 then if d.num = 0 then (aN d.members).bind fun _ => ig d.members (d.members.length + 1) 1 else if d.num = 1 then (aN d.members).bind fun _ => ig d.members (d.members.length + 1) 1 else some 1
  else if d.kind = 3 then (fixV d.num).bind fun ok => if ok then (aN d.members).bind fun _ => ig d.members (d.members.length + 1) 1 else some 1
  else (aN d.members).bind fun _ => ig d.members (d.members.length + 1) 1
 else some 11
theorem ownD_ok {d : dH Dat} {r : Int} (hm : ownD d = some r) : Has Tryz.prog 63 [.agg (fR dk d)] fun s => s = .int .i64 r := by
 refine hs aa Tryz.f63 ?_
 unfold ownD at hm
 refine z ?_
 obtain ⟨v1, e1, hm⟩ := ae hm
 refine ce (onlyD_ok e1) (z ?_)
 refine bkm (fun h2 => z ?_) (fun h2 => z ?_)
 rw [if_neg (nt h2)] at hm
 cases hm
 exact fc
 rw [if_pos h2] at hm
 refine bkd (fun h3 => z ?_) (fun h3 => z ?_)
 rw [if_pos h3] at hm
 refine bkn (fun h4 => z ?_) (fun h4 => z ?_)
 rw [if_neg h4] at hm
 refine bkn (fun h5 => z ?_) (fun h5 => z ?_)
 rw [if_neg h5] at hm
 cases hm
 exact fc
 rw [if_pos h5] at hm
 obtain ⟨hg6, hm⟩ := aj hm
 have h7 : ¬ ((d.kind : Int) = 3) := by omega
 refine bdf h7 (z ?_)
 refine lg (α := Nat × Int) aa (fun (nw, s1) => (ig (d.members) nw s1 = some r, ⟨54, [(3, .int .i64 s1), (2, .int .i64 0), (1, .ptr 0 0)]⟩, ⟨[(0, .cells (fR dk d))], 1, 0, [], []⟩, nw)) ⟨(_, _), hm⟩ ?_
 rintro ⟨n8, s1_8⟩ hq8
 dsimp only at hq8
 rcases n8 with _ | n8
 (unfold ig at hq8; cases hq8)
 unfold ig at hq8
 refine z ?_
 refine bkd (fun h9 => z ?_) (fun h9 => z ?_)
 rw [if_pos h9] at hq8
 refine dg aa [0,1,0,4,15,31,63,0,128,0,896,1920,3968,8191] [] (z ?_)
 obtain ⟨hg10, hq8⟩ := aj hq8
 refine z ?_
 obtain ⟨j12, x12, en12, ex12, hq8⟩ := aB hq8
 refine bU (bQ _) en12 ex12 rfl (z ?_)
 obtain ⟨j13, x13, en13, ex13, hq8⟩ := aB hq8
 refine bU (bQ _) en13 ex13 rfl (z ?_)
 refine bkm (fun h14 => z ?_) (fun h14 => z ?_)
 rw [if_neg (nt h14)] at hq8
 cases hq8
 exact fc
 rw [if_pos h14] at hq8
 exact bk ⟨(n8, _), hq8⟩
 rw [if_neg h9] at hq8
 cases hq8
 exact fc
 rw [if_pos h4] at hm
 obtain ⟨hg15, hm⟩ := aj hm
 have h16 : ¬ ((d.kind : Int) = 3) := by omega
 refine bdf h16 (z ?_)
 refine lg (α := Nat × Int) aa (fun (nw, s1) => (ig (d.members) nw s1 = some r, ⟨54, [(3, .int .i64 s1), (2, .int .i64 0), (1, .ptr 0 0)]⟩, ⟨[(0, .cells (fR dk d))], 1, 0, [], []⟩, nw)) ⟨(_, _), hm⟩ ?_
 rintro ⟨n17, s1_17⟩ hq17
 dsimp only at hq17
 rcases n17 with _ | n17
 (unfold ig at hq17; cases hq17)
 unfold ig at hq17
 refine z ?_
 refine bkd (fun h18 => z ?_) (fun h18 => z ?_)
 rw [if_pos h18] at hq17
 refine dg aa [0,1,0,4,15,31,63,0,128,0,896,1920,3968,8191] [] (z ?_)
 obtain ⟨hg19, hq17⟩ := aj hq17
 refine z ?_
 obtain ⟨j21, x21, en21, ex21, hq17⟩ := aB hq17
 refine bU (bQ _) en21 ex21 rfl (z ?_)
 obtain ⟨j22, x22, en22, ex22, hq17⟩ := aB hq17
 refine bU (bQ _) en22 ex22 rfl (z ?_)
 refine bkm (fun h23 => z ?_) (fun h23 => z ?_)
 rw [if_neg (nt h23)] at hq17
 cases hq17
 exact fc
 rw [if_pos h23] at hq17
 exact bk ⟨(n17, _), hq17⟩
 rw [if_neg h18] at hq17
 cases hq17
 exact fc
 rw [if_neg h3] at hm
 refine bkd (fun h24 => z ?_) (fun h24 => z ?_)
 rw [if_pos h24] at hm
 obtain ⟨v25, e25, hm⟩ := ae hm
 refine ce (fixV_ok e25) (z ?_)
 refine bkm (fun h26 => z ?_) (fun h26 => z ?_)
 rw [if_neg (nt h26)] at hm
 cases hm
 exact fc
 rw [if_pos h26] at hm
 obtain ⟨hg27, hm⟩ := aj hm
 refine lg (α := Nat × Int) aa (fun (nw, s1) => (ig (d.members) nw s1 = some r, ⟨54, [(3, .int .i64 s1), (2, .int .i64 0), (1, .ptr 0 0)]⟩, ⟨[(0, .cells (fR dk d))], 1, 0, [], []⟩, nw)) ⟨(_, _), hm⟩ ?_
 rintro ⟨n28, s1_28⟩ hq28
 dsimp only at hq28
 rcases n28 with _ | n28
 (unfold ig at hq28; cases hq28)
 unfold ig at hq28
 refine z ?_
 refine bkd (fun h29 => z ?_) (fun h29 => z ?_)
 rw [if_pos h29] at hq28
 refine dg aa [0,1,0,4,15,31,63,0,128,0,896,1920,3968,8191] [] (z ?_)
 obtain ⟨hg30, hq28⟩ := aj hq28
 refine z ?_
 obtain ⟨j32, x32, en32, ex32, hq28⟩ := aB hq28
 refine bU (bQ _) en32 ex32 rfl (z ?_)
 obtain ⟨j33, x33, en33, ex33, hq28⟩ := aB hq28
 refine bU (bQ _) en33 ex33 rfl (z ?_)
 refine bkm (fun h34 => z ?_) (fun h34 => z ?_)
 rw [if_neg (nt h34)] at hq28
 cases hq28
 exact fc
 rw [if_pos h34] at hq28
 exact bk ⟨(n28, _), hq28⟩
 rw [if_neg h29] at hq28
 cases hq28
 exact fc
 rw [if_neg h24] at hm
 obtain ⟨hg35, hm⟩ := aj hm
 refine lg (α := Nat × Int) aa (fun (nw, s1) => (ig (d.members) nw s1 = some r, ⟨54, [(3, .int .i64 s1), (2, .int .i64 0), (1, .ptr 0 0)]⟩, ⟨[(0, .cells (fR dk d))], 1, 0, [], []⟩, nw)) ⟨(_, _), hm⟩ ?_
 rintro ⟨n36, s1_36⟩ hq36
 dsimp only at hq36
 rcases n36 with _ | n36
 (unfold ig at hq36; cases hq36)
 unfold ig at hq36
 refine z ?_
 refine bkd (fun h37 => z ?_) (fun h37 => z ?_)
 rw [if_pos h37] at hq36
 refine dg aa [0,1,0,4,15,31,63,0,128,0,896,1920,3968,8191] [] (z ?_)
 obtain ⟨hg38, hq36⟩ := aj hq36
 refine z ?_
 obtain ⟨j40, x40, en40, ex40, hq36⟩ := aB hq36
 refine bU (bQ _) en40 ex40 rfl (z ?_)
 obtain ⟨j41, x41, en41, ex41, hq36⟩ := aB hq36
 refine bU (bQ _) en41 ex41 rfl (z ?_)
 refine bkm (fun h42 => z ?_) (fun h42 => z ?_)
 rw [if_neg (nt h42)] at hq36
 cases hq36
 exact fc
 rw [if_pos h42] at hq36
 exact bk ⟨(n36, _), hq36⟩
 rw [if_neg h37] at hq36
 cases hq36
 exact fc
def chD : List (Mem Dat) → List Dat → Option (List Dat)
 | [], out => some out
 | m :: r, out => (push out m.data).bind fun out => chD r out
def r5 (d : dH Dat) : Option (List Dat) := (aN d.items).bind fun _ => (aN d.members).bind fun _ => chD d.members d.items
theorem childD_ok {d : dH Dat} {r : List Dat} (hm : r5 d = some r) : Has Tryz.prog 64 [.agg (fR dk d)] fun s => s = .lst false (r.map dk) := by
 obtain ⟨k, n, s, items, m⟩ := d
 rcases items with _ | ⟨x, items⟩
 change Has Tryz.prog _ [.agg [.int .i64 k, .int .i64 n, .str s, .lst false [], .lst false (List.map (jn dk) m)]] _
 refine hs aa Tryz.f64 ?_
 unfold r5 at hm
 dsimp only at hm
 refine z ?_
 refine ce tm (z ?_)
 obtain ⟨hg1, hm⟩ := aj hm
 obtain ⟨hg2, hm⟩ := aj hm
 refine loop_nameL 3 5 rfl ?_
 refine lg (α := Nat × List Dat × Nat) aa (fun (iw, s1, ts1) => (chD (List.drop iw (m)) s1 = some r, ⟨23, [(3, .own 1 ts1), (12, .int .i64 iw), (11, .int .i64 ↑m.length), (10, .lst false (List.map (jn dk) m)), (2, .az)]⟩, ⟨[(1, .row 5 (s1.map dk) ts1 false), (0, .cells [.int .i64 k, .int .i64 n, .str s, .lst false [], .lst false (List.map (jn dk) m)])], 2, 0, [], []⟩, List.length (m) - iw)) ⟨(0, _, (0)), hm⟩ ?_
 rintro ⟨i3, s1_3, ts1_3⟩ hq3
 dsimp only at hq3
 refine z ?_
 refine bkd (fun h4 => z ?_) (fun h4 => z ?_)
 obtain ⟨x4, ex4, ed4⟩ := au h4
 rw [ed4, chD] at hq3
 refine z ?_
 refine bo (bQ _) ex4 rfl (z ?_)
 obtain ⟨hg5, hq3⟩ := aD hq3
 refine z ?_
 refine aH (x4.data) (dV _) (z ?_)
 exact bk ⟨(i3 + 1, _, (ts1_3 + 1)), hq3⟩
 rw [av h4, chD] at hq3
 cases hq3
 refine cP (z ?_)
 first | exact e2 | exact rfl
 change Has Tryz.prog _ [.agg [.int .i64 k, .int .i64 n, .str s, .lst false (List.map dk (x :: items)), .lst false (List.map (jn dk) m)]] _
 refine hs aa Tryz.f64 ?_
 unfold r5 at hm
 dsimp only at hm
 refine z ?_
 refine ci aa Tryz.f84 (z ?_)
 obtain ⟨hg1, hm⟩ := aj hm
 obtain ⟨hg2, hm⟩ := aj hm
 refine z ?_
 refine sA (z ?_)
 refine ei (z ?_)
 refine lg (α := Nat × List Dat × Nat) aa (fun (iw, s1, ts1) => (chD (List.drop iw (m)) s1 = some r, ⟨23, [(12, .int .i64 iw), (11, .int .i64 ↑m.length), (10, .lst false (List.map (jn dk) m)), (3, .own 1 ts1), (2, .az)]⟩, ⟨[(1, .row 5 (s1.map dk) ts1 false), (0, .cells [.int .i64 k, .int .i64 n, .str s, .lst false (List.map dk (x :: items)), .lst false (List.map (jn dk) m)])], 2, 0, [], []⟩, List.length (m) - iw)) ⟨(0, _, (1)), hm⟩ ?_
 rintro ⟨i3, s1_3, ts1_3⟩ hq3
 dsimp only at hq3
 refine z ?_
 refine bkd (fun h4 => z ?_) (fun h4 => z ?_)
 obtain ⟨x4, ex4, ed4⟩ := au h4
 rw [ed4, chD] at hq3
 refine z ?_
 refine bo (bQ _) ex4 rfl (z ?_)
 obtain ⟨hg5, hq3⟩ := aD hq3
 refine z ?_
 refine aH (x4.data) (dV _) (z ?_)
 exact bk ⟨(i3 + 1, _, (ts1_3 + 1)), hq3⟩
 rw [av h4, chD] at hq3
 cases hq3
 refine cP (z ?_)
 first | exact e2 | exact rfl
def r6 (rec : Dat → Int → Option Int) (level : Int) : List Dat → Option Int
 | [] => some 0
 | x :: r => (cX (level + 1)).bind fun _ => (rec x (level + 1)).bind fun e => if e = 0 then r6 rec level r else some e
def oi : Nat → Dat → Int → Option Int
 | 0, _, _ => none
 | n + 1, d, level => if level > 16 then some 9 else (ownD d.c).bind fun e => if e = 0 then (r5 d.c).bind fun l => (aN l).bind fun _ => r6 (oi n) level l else some e
theorem checkD_ok : ∀ {n : Nat} {d : Dat} {level r : Int} (hm : oi n d level = some r), Has Tryz.prog 45 [.agg (dw d), .int .i64 level] fun s => s = .int .i64 r := by
 intro n
 induction n with
 | zero => intro d level r hm; cases hm
 | succ n ih =>
  intro d level r hm
  refine hs aa Tryz.f45 ?_
  unfold oi at hm
  refine z ?_
  refine bkd (fun h1 => z ?_) (fun h1 => z ?_)
  ·rw [if_pos h1] at hm
   cases hm
   exact fc
  ·rw [if_neg h1] at hm
   obtain ⟨v2, e2, hm⟩ := ae hm
   refine ce (ownD_ok e2) (z ?_)
   refine bkn (fun h3 => z ?_) (fun h3 => z ?_)
   ·rw [if_neg h3] at hm
    cases hm
    exact fc
   ·rw [if_pos h3] at hm
    obtain ⟨v4, e4, hm⟩ := ae hm
    refine ce (childD_ok e4) (z ?_)
    obtain ⟨hg5, hm⟩ := aj hm
    refine lg (α := Nat) aa (fun iw => (r6 (oi n) (level) (List.drop iw (v4)) = some r, ⟨31, [(19, .int .i64 iw), (18, .int .i64 ↑v4.length), (17, .lst false (List.map dk v4)), (4, .int .i64 0), (1, .int .i64 level)]⟩, ⟨[(0, .cells (dw d))], 1, 0, [], []⟩, List.length (v4) - iw)) ⟨(0), hm⟩ ?_
    intro i6 hq6
    dsimp only at hq6
    refine z ?_
    refine bkd (fun h7 => z ?_) (fun h7 => z ?_)
    ·obtain ⟨x7, ex7, ed7⟩ := au h7
     rw [ed7, r6] at hq6
     refine z ?_
     obtain ⟨hg8, hq6⟩ := aj hq6
     refine bo (dV _) ex7 rfl (z ?_)
     obtain ⟨v9, e9, hq6⟩ := ae hq6
     refine ce (ih e9) (z ?_)
     refine bkn (fun h10 => z ?_) (fun h10 => z ?_)
     ·rw [if_neg h10] at hq6
      cases hq6
      exact fc
     ·rw [if_pos h10] at hq6
      exact bk ⟨i6 + 1, hq6⟩
    ·rw [av h7, r6] at hq6
     cases hq6
     exact fc
def chkD (d : Dat) : Option Int := oi 18 d 1
theorem chkD_ok {d : Dat} {r : Int} (hm : chkD d = some r) : Has Tryz.prog 30 [.agg (dw d)] fun s => s = .int .i64 r := by
 refine hs aa Tryz.f30 ?_
 unfold chkD at hm
 refine z ?_
 replace hm := aG hm
 obtain ⟨v1, e1, hm⟩ := ae hm
 refine ce (checkD_ok e1) (z ?_)
 cases hm
 exact fc
end Go.Proofs.YtmjddpeookapaaaGreatDoor
