/- For ConcreteHidden: functions of the program, walked beside Lean functions that say what they compute. -/
import Derived.Test.YtmjddpeookapaaaGreatDoorEn
import Derived.KernelRfl
import Derived.Test.YtmjddpeookapaaaGreatDoorMb
set_option linter.unusedVariables false
set_option linter.unusedSimpArgs false
set_option linter.unusedSectionVars false
namespace Go.Proofs.YtmjddpeookapaaaGreatDoor
open Sv
set_option maxRecDepth 100000
set_option maxHeartbeats 2000000
def lG (l : List Stt) : Option Bool := (minM l).bind fun p => if p.2 = 0 then tL l p.1 else some false
theorem ny {l : List Stt} {r : Bool} (hm : lG l = some r) : aY Tryz.prog 86 [.agg [aC l]] fun s => s = .bool r := by
 refine ht aa Tryz.f86 ?_
 unfold lG at hm
 refine z ?_
 obtain ⟨v1, e1, hm⟩ := ae hm
 refine ct (q6 e1) (z ?_)
 refine bkd (fun h2 => z ?_) (fun h2 => z ?_)
 rw [if_pos h2] at hm
 replace hm := aG hm
 obtain ⟨v3, e3, hm⟩ := ae hm
 refine ce (vr e3) (z ?_)
 cases hm
 exact mst
 rw [if_neg h2] at hm
 cases hm
 exact mst
def fI (l : List Stt) : Option (List Stt) := (lG l).bind fun ok => if ok then some l else some []
theorem fH {l r : List Stt} (hm : fI l = some r) : aY Tryz.prog 66 [.agg [aC l]] fun s => s = .agg [aC r] := by
 refine ht aa Tryz.f66 ?_
 unfold fI at hm
 refine z ?_
 obtain ⟨v1, e1, hm⟩ := ae hm
 refine ct (ny e1) (z ?_)
 refine bkm (fun h2 => z ?_) (fun h2 => z ?_)
 rw [if_neg (nt h2)] at hm
 cases hm
 refine aR (z ?_)
 exact mt
 rw [if_pos h2] at hm
 cases hm
 exact mst
def copL : List Stt → List Stt → Option (List Stt)
 | [], out => some out
 | s :: r, out => (wc s.aL).bind fun e => (push out ⟨s.acc, e⟩).bind fun out => copL r out
def gT (l : List Stt) : Option (List Stt) := (aN l).bind fun _ => copL l []
theorem od {l r : List Stt} (hm : gT l = some r) : Has Tryz.prog 65 [.agg [aC l]] fun s => s = .agg [aC r] := by
 refine hs aa Tryz.f65 ?_
 unfold gT at hm
 refine z ?_
 obtain ⟨hg1, hm⟩ := aj hm
 refine bj 2 0 2 rfl rfl ?_
 refine lg (α := Nat × List Stt × Nat) aa (fun (iw, s1, ts1) => (copL (List.drop iw (l)) s1 = some r, ⟨26, [(9, .int .i64 iw), (8, .int .i64 ↑l.length), (7, aC l), (3, .ptr 2 0), (2, .ptr 1 0)]⟩, ⟨[(3, .row 2 (s1.map fu) ts1 false), (2, .cells [.own 3 ts1]), (1, .cells [.az]), (0, .cells [aC l])], 4, 0, [], []⟩, List.length (l) - iw)) ⟨(0, _, (0)), hm⟩ ?_
 rintro ⟨i2, s1_2, ts1_2⟩ hq2
 dsimp only at hq2
 refine z ?_
 refine bkd (fun h3 => z ?_) (fun h3 => z ?_)
 obtain ⟨x3, ex3, ed3⟩ := au h3
 rw [ed3, copL] at hq2
 refine z ?_
 refine a6 ex3 rfl (z ?_)
 refine dg aa [0,1,0,4,0,16,48,124,252,511,1023,2047] [] (z ?_)
 obtain ⟨v4, e4, hq2⟩ := ae hq2
 refine ce (we e4) (z ?_)
 obtain ⟨hg5, hq2⟩ := aD hq2
 refine z ?_
 refine aH ({ acc := x3.acc, aL := v4 }) rfl (z ?_)
 exact bk ⟨(i2 + 1, _, (ts1_2 + 1)), hq2⟩
 rw [av h3, copL] at hq2
 cases hq2
 refine cP (z ?_)
 first | exact e2 | exact rfl
structure dY where
 a : Int
 b : Int
def eM (p : dY) : List SVal := [.int .i64 p.a, .int .i64 p.b]
instance : Cl eM := ⟨fun _ => rfl⟩
abbrev pairEq (x y : dY) : Bool := decide (x.a = y.a) && (decide (x.b = y.b) && true)
def gq (p : dY) : List dY → Int → Option Int
 | [], _ => some (-1)
 | x :: r, i => if pairEq p x then some i else gq p r (i + 1)
def mN (l : List dY) (p : dY) : Option Int := (aN l).bind fun _ => gq p l 0
theorem dz {l : List dY} {p : dY} {r : Int} (hm : mN l p = some r) : Has Tryz.prog 88 [.lst false (l.map eM), .agg (eM p)] fun s => s = .int .i64 r := by
 refine hs aa Tryz.f88 ?_
 unfold mN at hm
 refine z ?_
 obtain ⟨hg1, hm⟩ := aj hm
 refine lg (α := Nat) aa (fun iw => (gq (p) (List.drop iw (l)) (iw : Int) = some r, ⟨19, [(8, .int .i64 iw), (7, .int .i64 ↑l.length), (4, .int .i64 0), (3, .ptr 0 0), (0, .lst false (List.map eM l))]⟩, ⟨[(0, .cells (eM p))], 1, 0, [], []⟩, List.length (l) - iw)) ⟨(0), hm⟩ ?_
 intro i2 hq2
 dsimp only at hq2
 refine z ?_
 refine bkd (fun h3 => z ?_) (fun h3 => z ?_)
 obtain ⟨x3, ex3, ed3⟩ := au h3
 rw [ed3, gq] at hq2
 refine z ?_
 refine dg aa [0,0,0,6,14,31] [] (z ?_)
 refine a6 ex3 rfl (z ?_)
 refine brk (fun h4 => z ?_) (fun h4 => z ?_)
 rw [if_pos h4] at hq2
 cases hq2
 exact fc
 rw [if_neg (nt h4)] at hq2
 exact bk ⟨i2 + 1, hq2⟩
 rw [av h3, gq] at hq2
 cases hq2
 exact fc
/-! products -/
def fL : List Sv.Edge → List Bool → Option (List Bool)
 | [], a => some a
 | e :: r, a => (ph 256 a e.lo true).bind fun a => if e.hi < 255 then (je e.hi).bind fun _ => (ph 256 a (e.hi + 1) true).bind fun a => fL r a else fL r a
def yX (l : List Stt) (s : Int) (a : List Bool) : Option (List Bool) :=
 if s < 0 then some a else if s ≥ l.length then some a else (atI l s).bind fun x => (aN x.aL).bind fun _ => fL x.aL a
def cI (a b : List Stt) (p : dY) (at' : List Bool) : Nat → Int → List dY → List Sv.Edge → Option (List dY × List Sv.Edge)
 | 0, _, l, e => some (l, e)
 | n + 1, c, l, e => (atA 256 at' c).bind fun x => if x then
   (tI a p.a c).bind fun x => (tI b p.b c).bind fun y => (mN l ⟨x, y⟩).bind fun k => if k < 0 then
     (push l ⟨x, y⟩).bind fun l' => (push e ⟨c, 0, l.length⟩).bind fun e => (aN e).bind fun _ => (nP e (e.length - 1) fun q => ⟨q.lo, c, q.to⟩).bind fun e => cI a b p at' n (c + 1) l' e
    else (push e ⟨c, 0, k⟩).bind fun e => (aN e).bind fun _ => (nP e (e.length - 1) fun q => ⟨q.lo, c, q.to⟩).bind fun e => cI a b p at' n (c + 1) l e
  else (aN e).bind fun _ => (nP e (e.length - 1) fun q => ⟨q.lo, c, q.to⟩).bind fun e => cI a b p at' n (c + 1) l e
def jZ : List Bool := true :: List.replicate 255 false
def qP (a b : List Stt) (is : Bool → Bool → Option Bool) : Nat → Int → List dY → List Stt → Option (List Stt)
 | 0, _, _, _ => none
 | n + 1, k, l, out => (aN l).bind fun _ => if k < l.length then (atI l k).bind fun p => (iE a p.a).bind fun x => (iE b p.b).bind fun y => (is x y).bind fun acc =>
   (yX a p.a jZ).bind fun a' => (yX b p.b a').bind fun a' => (cI a b p a' 256 0 l []).bind fun q => (push out ⟨acc, q.2⟩).bind fun out => qP a b is n (k + 1) q.1 out
  else some out
def gp (is : Bool → Bool → Option Bool) (a b : List Stt) : Option (List Stt) := (fI a).bind fun a => (fI b).bind fun b =>
 (qP a b is ((a.length + 2) * (b.length + 2) + 1) 0 [⟨0, 0⟩] []).bind fun out => (minM out).bind fun p => some p.1
theorem lK {fn : FuncId} {cap : List SVal} (hc : aw cap = true) (hw : cg cap = cap) {is : Bool → Bool → Option Bool} (hg : ∀ {x y r}, is x y = some r → Has Tryz.prog fn (.bool x :: .bool y :: cap) fun s => s = .bool r) {a b r : List Stt} (hm : gp is a b = some r) :
  aY Tryz.prog 67 [.agg [aC a], .agg [aC b], .func (.func fn) [] cap] fun s => s = .agg [aC r] := by
 refine ht aa Tryz.f67 ?_
 unfold gp at hm
 refine z ?_
 refine dg aa [0,1,0,7,15,31] [] (z ?_)
 obtain ⟨v1, e1, hm⟩ := ae hm
 refine ct (fH e1) (z ?_)
 obtain ⟨v2, e2, hm⟩ := ae hm
 refine ct (fH e2) (z ?_)
 obtain ⟨v3, hv3, hm⟩ := ae hm
 refine b0 9 2 rfl ?_
 refine lg (α := Nat × Int × List dY × List Stt × Nat × Nat) aa (fun (nw, s1, s2, s3, ts2, ts3) => (qP (v1) (v2) (is) nw s1 s2 s3 = some v3, ⟨104, [(9, .own 6 ts3), (10, .int .i64 s1), (8, .func (.func 87) [] [.ptr 5 0]), (7, .ptr 5 0), (6, .ptr 3 0), (4, .ptr 2 0), (3, .ptr 1 0), (2, .func (.func fn) [] cap)]⟩, ⟨[(6, .row 2 (s3.map fu) ts3 false), (5, .cells [.own 4 ts2]), (4, .row 2 (s2.map eM) ts2 false), (3, .cells [.az]), (2, .cells [aC v2]), (1, .cells [aC v1]), (0, aS)], 7, 0, [], []⟩, nw)) ⟨(_, _, _, _, (0), (0)), hv3⟩ ?_
 rintro ⟨n3, s1_3, s2_3, s3_3, ts2_3, ts3_3⟩ hq3
 dsimp only at hq3
 rcases n3 with _ | n3
 ·(unfold qP at hq3; cases hq3)
 unfold qP at hq3
 refine z ?_
 obtain ⟨hg4, hq3⟩ := aj hq3
 refine bkd (fun h5 => z ?_) (fun h5 => z ?_)
 ·rw [if_pos h5] at hq3
  obtain ⟨j6, x6, en6, ex6, hq3⟩ := aB hq3
  refine aK en6 ex6 (z ?_)
  refine bw ex6 (z ?_)
  refine dg aa [0,0,0,4,14,0,0,64,254,511,1023,0,4095] [] (z ?_)
  obtain ⟨v7, e7, hq3⟩ := ae hq3
  refine ce (sD e7) (z ?_)
  obtain ⟨v8, e8, hq3⟩ := ae hq3
  refine ce (sD e8) (z ?_)
  obtain ⟨v9, e9, hq3⟩ := ae hq3
  refine k7 (hg e9) (by (simp only [cg, iG, hw]; try rfl)) ?_
  unfold yX at hq3
  refine z ?_
  refine ci aa Tryz.f90 (z ?_)
  refine bkd (fun h10 => z ?_) (fun h10 => z ?_)
  ·rw [if_pos h10] at hq3
   dsimp only [Option.bind_some] at hq3
   refine z ?_
   refine ei (z ?_)
   refine ci aa Tryz.f90 (z ?_)
   refine bkd (fun h11 => z ?_) (fun h11 => z ?_)
   ·rw [if_pos h11] at hq3
    dsimp only [Option.bind_some] at hq3
    refine z ?_
    refine ei (z ?_)
    obtain ⟨v12, hv12, hq3⟩ := ae hq3
    refine bj 8 1 3 rfl rfl ?_
    refine lg (α := Nat × List dY × List Sv.Edge × Nat × Nat) aa (fun (iw, s1, s2, ts1, ts2) => (cI (v1) (v2) (x6) (jZ) (256 - iw) (iw : Int) s1 s2 = some v12, ⟨104, [(54, .int .i64 iw), (13, .ptr 9 0), (12, .ptr 8 0), (11, .ptr 7 0), (9, .own 6 ts3_3), (10, .int .i64 s1_3), (8, .func (.func 87) [] [.ptr 5 0]), (7, .ptr 5 0), (6, .ptr 3 0), (4, .ptr 2 0), (3, .ptr 1 0), (2, .func (.func fn) [] cap)]⟩, ⟨[(12, .row 3 (s2.map ck) ts2 false), (11, .cells [aC v2]), (10, .cells [aC v1]), (9, .cells ((jZ).map .bool)), (8, .cells [.bool v9, .own 12 ts2]), (7, .cells [.int .i64 x6.a, .int .i64 x6.b]), (6, .row 2 (List.map fu s3_3) ts3_3 false), (5, .cells [.own 4 ts1]), (4, .row 2 (s1.map eM) ts1 false), (3, .cells [.az]), (2, .cells [aC v2]), (1, .cells [aC v1]), (0, aS)], 13, 0, [], []⟩, (256) - iw)) ⟨(0, _, _, (ts2_3), (0)), hv12⟩ ?_
    rintro ⟨i12, s1_12, s2_12, ts1_12, ts2_12⟩ hq12
    dsimp only at hq12
    refine z ?_
    refine bkd (fun h13 => z ?_) (fun h13 => z ?_)
    ·have h13' : (i12 : Int) < (((256) : Nat) : Int) := by (try simp only [List.length_map, List.length_replicate, List.length_set, List.length_append] at h13); omega
     rw [cB h13', cI] at hq12
     refine z ?_
     obtain ⟨j14, x14, en14, ej14, ex14, hq12⟩ := gB hq12
     refine b5 en14 ej14 (z ?_)
     rw [dO ex14 (by (show _ + _ * 1 = _; omega)) rfl]
     refine z ?_
     refine brk (fun h15 => z ?_) (fun h15 => z ?_)
     ·rw [if_pos h15] at hq12
      refine dg aa [0,1,0,4,0,0,0,64,0,256,992,0,0,4096,0,16384,65504,131040,262128,524284,1048572,2097151,4194303,8388607] [⟨23,0,0,[8]⟩,⟨21,0,0,[12]⟩,⟨18,0,0,[5,4]⟩] (z ?_)
      obtain ⟨v22, e22, hq12⟩ := ae hq12
      refine ce (cT e22) (z ?_)
      obtain ⟨v23, e23, hq12⟩ := ae hq12
      refine ce (cT e23) (z ?_)
      refine cd aa Tryz.f87 (z ?_)
      obtain ⟨v24, e24, hq12⟩ := ae hq12
      refine bH (dz e24) rfl (z ?_)
      refine bkd (fun h25 => z ?_) (fun h25 => z ?_)
      ·rw [if_pos h25] at hq12
       obtain ⟨hg26, hq12⟩ := aD hq12
       refine z ?_
       refine aH ({ a := v22, b := v23 }) rfl (z ?_)
       refine ed (z ?_)
       obtain ⟨hg27, hq12⟩ := aD hq12
       refine z ?_
       refine aH ({ lo := ↑i12, hi := 0, to := ↑s1_12.length }) rfl (z ?_)
       obtain ⟨hg28, hq12⟩ := aj hq12
       refine z ?_
       obtain ⟨j30, x30, en30, ex30, hq12⟩ := bL hq12
       refine aK en30 ex30 (z ?_)
       refine bT _ ({ lo := x30.lo, hi := ↑i12, to := x30.to }) ex30 rfl (z ?_)
       exact bk ⟨(i12 + 1, _, _, (ts1_12 + 1), (ts2_12 + 1)), hq12⟩
      ·rw [if_neg h25] at hq12
       refine ed (z ?_)
       obtain ⟨hg31, hq12⟩ := aD hq12
       refine z ?_
       refine aH ({ lo := ↑i12, hi := 0, to := v24 }) rfl (z ?_)
       obtain ⟨hg32, hq12⟩ := aj hq12
       refine z ?_
       obtain ⟨j34, x34, en34, ex34, hq12⟩ := bL hq12
       refine aK en34 ex34 (z ?_)
       refine bT _ ({ lo := x34.lo, hi := ↑i12, to := x34.to }) ex34 rfl (z ?_)
       exact bk ⟨(i12 + 1, _, _, (ts1_12), (ts2_12 + 1)), hq12⟩
     ·rw [if_neg (nt h15)] at hq12
      obtain ⟨hg35, hq12⟩ := aj hq12
      refine z ?_
      obtain ⟨j37, x37, en37, ex37, hq12⟩ := bL hq12
      refine aK en37 ex37 (z ?_)
      refine bT _ ({ lo := x37.lo, hi := ↑i12, to := x37.to }) ex37 rfl (z ?_)
      exact bk ⟨(i12 + 1, _, _, (ts1_12), (ts2_12)), hq12⟩
    ·have h13' : ¬ (i12 : Int) < (((256) : Nat) : Int) := by (try simp only [List.length_map, List.length_replicate, List.length_set, List.length_append] at h13); omega
     rw [cA h13', cI] at hq12
     cases hq12
     dsimp only at hq3
     refine z ?_
     obtain ⟨hg38, hq3⟩ := aD hq3
     refine z ?_
     refine aH ({ acc := v9, aL := s2_12 }) rfl (z ?_)
     exact bk ⟨(n3, _, _, _, (ts1_12), (ts3_3 + 1)), hq3⟩
   ·rw [if_neg h11] at hq3
    refine bkd (fun h39 => z ?_) (fun h39 => z ?_)
    ·rw [if_pos h39] at hq3
     dsimp only [Option.bind_some] at hq3
     refine z ?_
     refine ei (z ?_)
     obtain ⟨v40, hv40, hq3⟩ := ae hq3
     refine bj 8 1 3 rfl rfl ?_
     refine lg (α := Nat × List dY × List Sv.Edge × Nat × Nat) aa (fun (iw, s1, s2, ts1, ts2) => (cI (v1) (v2) (x6) (jZ) (256 - iw) (iw : Int) s1 s2 = some v40, ⟨104, [(54, .int .i64 iw), (13, .ptr 9 0), (12, .ptr 8 0), (11, .ptr 7 0), (9, .own 6 ts3_3), (10, .int .i64 s1_3), (8, .func (.func 87) [] [.ptr 5 0]), (7, .ptr 5 0), (6, .ptr 3 0), (4, .ptr 2 0), (3, .ptr 1 0), (2, .func (.func fn) [] cap)]⟩, ⟨[(12, .row 3 (s2.map ck) ts2 false), (11, .cells [aC v2]), (10, .cells [aC v1]), (9, .cells ((jZ).map .bool)), (8, .cells [.bool v9, .own 12 ts2]), (7, .cells [.int .i64 x6.a, .int .i64 x6.b]), (6, .row 2 (List.map fu s3_3) ts3_3 false), (5, .cells [.own 4 ts1]), (4, .row 2 (s1.map eM) ts1 false), (3, .cells [.az]), (2, .cells [aC v2]), (1, .cells [aC v1]), (0, aS)], 13, 0, [], []⟩, (256) - iw)) ⟨(0, _, _, (ts2_3), (0)), hv40⟩ ?_
     rintro ⟨i40, s1_40, s2_40, ts1_40, ts2_40⟩ hq40
     dsimp only at hq40
     refine z ?_
     refine bkd (fun h41 => z ?_) (fun h41 => z ?_)
     ·have h41' : (i40 : Int) < (((256) : Nat) : Int) := by (try simp only [List.length_map, List.length_replicate, List.length_set, List.length_append] at h41); omega
      rw [cB h41', cI] at hq40
      refine z ?_
      obtain ⟨j42, x42, en42, ej42, ex42, hq40⟩ := gB hq40
      refine b5 en42 ej42 (z ?_)
      rw [dO ex42 (by (show _ + _ * 1 = _; omega)) rfl]
      refine z ?_
      refine brk (fun h43 => z ?_) (fun h43 => z ?_)
      ·rw [if_pos h43] at hq40
       refine dg aa [0,1,0,4,0,0,0,64,0,256,992,0,0,4096,0,16384,65504,131040,262128,524284,1048572,2097151,4194303,8388607] [⟨23,0,0,[8]⟩,⟨21,0,0,[12]⟩,⟨18,0,0,[5,4]⟩] (z ?_)
       obtain ⟨v50, e50, hq40⟩ := ae hq40
       refine ce (cT e50) (z ?_)
       obtain ⟨v51, e51, hq40⟩ := ae hq40
       refine ce (cT e51) (z ?_)
       refine cd aa Tryz.f87 (z ?_)
       obtain ⟨v52, e52, hq40⟩ := ae hq40
       refine bH (dz e52) rfl (z ?_)
       refine bkd (fun h53 => z ?_) (fun h53 => z ?_)
       ·rw [if_pos h53] at hq40
        obtain ⟨hg54, hq40⟩ := aD hq40
        refine z ?_
        refine aH ({ a := v50, b := v51 }) rfl (z ?_)
        refine ed (z ?_)
        obtain ⟨hg55, hq40⟩ := aD hq40
        refine z ?_
        refine aH ({ lo := ↑i40, hi := 0, to := ↑s1_40.length }) rfl (z ?_)
        obtain ⟨hg56, hq40⟩ := aj hq40
        refine z ?_
        obtain ⟨j58, x58, en58, ex58, hq40⟩ := bL hq40
        refine aK en58 ex58 (z ?_)
        refine bT _ ({ lo := x58.lo, hi := ↑i40, to := x58.to }) ex58 rfl (z ?_)
        exact bk ⟨(i40 + 1, _, _, (ts1_40 + 1), (ts2_40 + 1)), hq40⟩
       ·rw [if_neg h53] at hq40
        refine ed (z ?_)
        obtain ⟨hg59, hq40⟩ := aD hq40
        refine z ?_
        refine aH ({ lo := ↑i40, hi := 0, to := v52 }) rfl (z ?_)
        obtain ⟨hg60, hq40⟩ := aj hq40
        refine z ?_
        obtain ⟨j62, x62, en62, ex62, hq40⟩ := bL hq40
        refine aK en62 ex62 (z ?_)
        refine bT _ ({ lo := x62.lo, hi := ↑i40, to := x62.to }) ex62 rfl (z ?_)
        exact bk ⟨(i40 + 1, _, _, (ts1_40), (ts2_40 + 1)), hq40⟩
      ·rw [if_neg (nt h43)] at hq40
       obtain ⟨hg63, hq40⟩ := aj hq40
       refine z ?_
       obtain ⟨j65, x65, en65, ex65, hq40⟩ := bL hq40
       refine aK en65 ex65 (z ?_)
       refine bT _ ({ lo := x65.lo, hi := ↑i40, to := x65.to }) ex65 rfl (z ?_)
       exact bk ⟨(i40 + 1, _, _, (ts1_40), (ts2_40)), hq40⟩
     ·have h41' : ¬ (i40 : Int) < (((256) : Nat) : Int) := by (try simp only [List.length_map, List.length_replicate, List.length_set, List.length_append] at h41); omega
      rw [cA h41', cI] at hq40
      cases hq40
      dsimp only at hq3
      refine z ?_
      obtain ⟨hg66, hq3⟩ := aD hq3
      refine z ?_
      refine aH ({ acc := v9, aL := s2_40 }) rfl (z ?_)
      exact bk ⟨(n3, _, _, _, (ts1_40), (ts3_3 + 1)), hq3⟩
    ·rw [if_neg h39] at hq3
     rw [Option.bind_assoc] at hq3
     refine z ?_
     obtain ⟨j67, x67, en67, ex67, hq3⟩ := aB hq3
     refine bf en67 ex67 rfl ?_
     rw [Option.bind_assoc] at hq3
     refine z ?_
     obtain ⟨hg68, hq3⟩ := aj hq3
     obtain ⟨v69, hv69, hq3⟩ := ae hq3
     refine lg (α := Nat × List Bool) aa (fun (iw, s1) => (fL (List.drop iw (x67.aL)) s1 = some v69, ⟨43, [(24, .int .i64 iw), (23, .int .i64 ↑x67.aL.length), (22, .lst false (List.map ck x67.aL)), (10, .bool false), (14, .int .i64 ↑v2.length), (13, aC v2), (12, .ptr 11 0), (11, .int .i64 x6.b), (8, .int .i64 x6.b), (3, .ptr 11 0), (0, .agg [aC v2]), (2, .ptr 9 0)]⟩, ⟨[(11, .cells [aC v2]), (10, .cells [aC v1]), (9, .cells (s1.map .bool)), (8, .cells [.bool v9, .az]), (7, .cells [.int .i64 x6.a, .int .i64 x6.b]), (6, .row 2 (List.map fu s3_3) ts3_3 false), (5, .cells [.own 4 ts2_3]), (4, .row 2 (List.map eM s2_3) ts2_3 false), (3, .cells [.az]), (2, .cells [aC v2]), (1, .cells [aC v1]), (0, aS)], 12, 0, [], []⟩, List.length (x67.aL) - iw)) ⟨(0, _), hv69⟩ ?_
     rintro ⟨i69, s1_69⟩ hq69
     dsimp only at hq69
     refine z ?_
     refine bkd (fun h70 => z ?_) (fun h70 => z ?_)
     ·obtain ⟨x70, ex70, ed70⟩ := au h70
      rw [ed70, fL] at hq69
      refine z ?_
      refine a6 ex70 rfl (z ?_)
      refine dg aa [0,0,2,1,15,31] [] (z ?_)
      obtain ⟨j71, x71, en71, ej71, ex71, hq69⟩ := dF hq69
      refine b5 en71 ej71 (z ?_)
      rw [c9 ex71 (by (show _ + _ * 1 = _; omega))]
      refine z ?_
      refine bkd (fun h72 => z ?_) (fun h72 => z ?_)
      ·rw [if_pos h72] at hq69
       refine dg aa [0,0,2,6,1,31,63] [] (z ?_)
       obtain ⟨hg73, hq69⟩ := aj hq69
       refine z ?_
       obtain ⟨j75, x75, en75, ej75, ex75, hq69⟩ := dF hq69
       refine b5 en75 ej75 (z ?_)
       rw [c9 ex75 (by (show _ + _ * 1 = _; omega))]
       refine z ?_
       exact bk ⟨(i69 + 1, _), hq69⟩
      ·rw [if_neg h72] at hq69
       exact bk ⟨(i69 + 1, _), hq69⟩
     ·rw [av h70, fL] at hq69
      cases hq69
      refine z ?_
      refine ei (z ?_)
      obtain ⟨v76, hv76, hq3⟩ := ae hq3
      refine bj 8 1 3 rfl rfl ?_
      refine lg (α := Nat × List dY × List Sv.Edge × Nat × Nat) aa (fun (iw, s1, s2, ts1, ts2) => (cI (v1) (v2) (x6) (v69) (256 - iw) (iw : Int) s1 s2 = some v76, ⟨104, [(54, .int .i64 iw), (13, .ptr 9 0), (12, .ptr 8 0), (11, .ptr 7 0), (9, .own 6 ts3_3), (10, .int .i64 s1_3), (8, .func (.func 87) [] [.ptr 5 0]), (7, .ptr 5 0), (6, .ptr 3 0), (4, .ptr 2 0), (3, .ptr 1 0), (2, .func (.func fn) [] cap)]⟩, ⟨[(12, .row 3 (s2.map ck) ts2 false), (11, .cells [aC v2]), (10, .cells [aC v1]), (9, .cells ((v69).map .bool)), (8, .cells [.bool v9, .own 12 ts2]), (7, .cells [.int .i64 x6.a, .int .i64 x6.b]), (6, .row 2 (List.map fu s3_3) ts3_3 false), (5, .cells [.own 4 ts1]), (4, .row 2 (s1.map eM) ts1 false), (3, .cells [.az]), (2, .cells [aC v2]), (1, .cells [aC v1]), (0, aS)], 13, 0, [], []⟩, (256) - iw)) ⟨(0, _, _, (ts2_3), (0)), hv76⟩ ?_
      rintro ⟨i76, s1_76, s2_76, ts1_76, ts2_76⟩ hq76
      dsimp only at hq76
      refine z ?_
      refine bkd (fun h77 => z ?_) (fun h77 => z ?_)
      ·have h77' : (i76 : Int) < (((256) : Nat) : Int) := by (try simp only [List.length_map, List.length_replicate, List.length_set, List.length_append] at h77); omega
       rw [cB h77', cI] at hq76
       refine z ?_
       obtain ⟨j78, x78, en78, ej78, ex78, hq76⟩ := gB hq76
       refine b5 en78 ej78 (z ?_)
       rw [dO ex78 (by (show _ + _ * 1 = _; omega)) rfl]
       refine z ?_
       refine brk (fun h79 => z ?_) (fun h79 => z ?_)
       ·rw [if_pos h79] at hq76
        refine dg aa [0,1,0,4,0,0,0,64,0,256,992,0,0,4096,0,16384,65504,131040,262128,524284,1048572,2097151,4194303,8388607] [⟨23,0,0,[8]⟩,⟨21,0,0,[12]⟩,⟨18,0,0,[5,4]⟩] (z ?_)
        obtain ⟨v86, e86, hq76⟩ := ae hq76
        refine ce (cT e86) (z ?_)
        obtain ⟨v87, e87, hq76⟩ := ae hq76
        refine ce (cT e87) (z ?_)
        refine cd aa Tryz.f87 (z ?_)
        obtain ⟨v88, e88, hq76⟩ := ae hq76
        refine bH (dz e88) rfl (z ?_)
        refine bkd (fun h89 => z ?_) (fun h89 => z ?_)
        ·rw [if_pos h89] at hq76
         obtain ⟨hg90, hq76⟩ := aD hq76
         refine z ?_
         refine aH ({ a := v86, b := v87 }) rfl (z ?_)
         refine ed (z ?_)
         obtain ⟨hg91, hq76⟩ := aD hq76
         refine z ?_
         refine aH ({ lo := ↑i76, hi := 0, to := ↑s1_76.length }) rfl (z ?_)
         obtain ⟨hg92, hq76⟩ := aj hq76
         refine z ?_
         obtain ⟨j94, x94, en94, ex94, hq76⟩ := bL hq76
         refine aK en94 ex94 (z ?_)
         refine bT _ ({ lo := x94.lo, hi := ↑i76, to := x94.to }) ex94 rfl (z ?_)
         exact bk ⟨(i76 + 1, _, _, (ts1_76 + 1), (ts2_76 + 1)), hq76⟩
        ·rw [if_neg h89] at hq76
         refine ed (z ?_)
         obtain ⟨hg95, hq76⟩ := aD hq76
         refine z ?_
         refine aH ({ lo := ↑i76, hi := 0, to := v88 }) rfl (z ?_)
         obtain ⟨hg96, hq76⟩ := aj hq76
         refine z ?_
         obtain ⟨j98, x98, en98, ex98, hq76⟩ := bL hq76
         refine aK en98 ex98 (z ?_)
         refine bT _ ({ lo := x98.lo, hi := ↑i76, to := x98.to }) ex98 rfl (z ?_)
         exact bk ⟨(i76 + 1, _, _, (ts1_76), (ts2_76 + 1)), hq76⟩
       ·rw [if_neg (nt h79)] at hq76
        obtain ⟨hg99, hq76⟩ := aj hq76
        refine z ?_
        obtain ⟨j101, x101, en101, ex101, hq76⟩ := bL hq76
        refine aK en101 ex101 (z ?_)
        refine bT _ ({ lo := x101.lo, hi := ↑i76, to := x101.to }) ex101 rfl (z ?_)
        exact bk ⟨(i76 + 1, _, _, (ts1_76), (ts2_76)), hq76⟩
      ·have h77' : ¬ (i76 : Int) < (((256) : Nat) : Int) := by (try simp only [List.length_map, List.length_replicate, List.length_set, List.length_append] at h77); omega
       rw [cA h77', cI] at hq76
       cases hq76
       dsimp only at hq3
       refine z ?_
       obtain ⟨hg102, hq3⟩ := aD hq3
       refine z ?_
       refine aH ({ acc := v9, aL := s2_76 }) rfl (z ?_)
       exact bk ⟨(n3, _, _, _, (ts1_76), (ts3_3 + 1)), hq3⟩
  ·rw [if_neg h10] at hq3
   refine bkd (fun h103 => z ?_) (fun h103 => z ?_)
   ·rw [if_pos h103] at hq3
    dsimp only [Option.bind_some] at hq3
    refine z ?_
    refine ei (z ?_)
    refine ci aa Tryz.f90 (z ?_)
    refine bkd (fun h104 => z ?_) (fun h104 => z ?_)
    ·rw [if_pos h104] at hq3
     dsimp only [Option.bind_some] at hq3
     refine z ?_
     refine ei (z ?_)
     obtain ⟨v105, hv105, hq3⟩ := ae hq3
     refine bj 8 1 3 rfl rfl ?_
     refine lg (α := Nat × List dY × List Sv.Edge × Nat × Nat) aa (fun (iw, s1, s2, ts1, ts2) => (cI (v1) (v2) (x6) (jZ) (256 - iw) (iw : Int) s1 s2 = some v105, ⟨104, [(54, .int .i64 iw), (13, .ptr 9 0), (12, .ptr 8 0), (11, .ptr 7 0), (9, .own 6 ts3_3), (10, .int .i64 s1_3), (8, .func (.func 87) [] [.ptr 5 0]), (7, .ptr 5 0), (6, .ptr 3 0), (4, .ptr 2 0), (3, .ptr 1 0), (2, .func (.func fn) [] cap)]⟩, ⟨[(12, .row 3 (s2.map ck) ts2 false), (11, .cells [aC v2]), (10, .cells [aC v1]), (9, .cells ((jZ).map .bool)), (8, .cells [.bool v9, .own 12 ts2]), (7, .cells [.int .i64 x6.a, .int .i64 x6.b]), (6, .row 2 (List.map fu s3_3) ts3_3 false), (5, .cells [.own 4 ts1]), (4, .row 2 (s1.map eM) ts1 false), (3, .cells [.az]), (2, .cells [aC v2]), (1, .cells [aC v1]), (0, aS)], 13, 0, [], []⟩, (256) - iw)) ⟨(0, _, _, (ts2_3), (0)), hv105⟩ ?_
     rintro ⟨i105, s1_105, s2_105, ts1_105, ts2_105⟩ hq105
     dsimp only at hq105
     refine z ?_
     refine bkd (fun h106 => z ?_) (fun h106 => z ?_)
     ·have h106' : (i105 : Int) < (((256) : Nat) : Int) := by (try simp only [List.length_map, List.length_replicate, List.length_set, List.length_append] at h106); omega
      rw [cB h106', cI] at hq105
      refine z ?_
      obtain ⟨j107, x107, en107, ej107, ex107, hq105⟩ := gB hq105
      refine b5 en107 ej107 (z ?_)
      rw [dO ex107 (by (show _ + _ * 1 = _; omega)) rfl]
      refine z ?_
      refine brk (fun h108 => z ?_) (fun h108 => z ?_)
      ·rw [if_pos h108] at hq105
       refine dg aa [0,1,0,4,0,0,0,64,0,256,992,0,0,4096,0,16384,65504,131040,262128,524284,1048572,2097151,4194303,8388607] [⟨23,0,0,[8]⟩,⟨21,0,0,[12]⟩,⟨18,0,0,[5,4]⟩] (z ?_)
       obtain ⟨v115, e115, hq105⟩ := ae hq105
       refine ce (cT e115) (z ?_)
       obtain ⟨v116, e116, hq105⟩ := ae hq105
       refine ce (cT e116) (z ?_)
       refine cd aa Tryz.f87 (z ?_)
       obtain ⟨v117, e117, hq105⟩ := ae hq105
       refine bH (dz e117) rfl (z ?_)
       refine bkd (fun h118 => z ?_) (fun h118 => z ?_)
       ·rw [if_pos h118] at hq105
        obtain ⟨hg119, hq105⟩ := aD hq105
        refine z ?_
        refine aH ({ a := v115, b := v116 }) rfl (z ?_)
        refine ed (z ?_)
        obtain ⟨hg120, hq105⟩ := aD hq105
        refine z ?_
        refine aH ({ lo := ↑i105, hi := 0, to := ↑s1_105.length }) rfl (z ?_)
        obtain ⟨hg121, hq105⟩ := aj hq105
        refine z ?_
        obtain ⟨j123, x123, en123, ex123, hq105⟩ := bL hq105
        refine aK en123 ex123 (z ?_)
        refine bT _ ({ lo := x123.lo, hi := ↑i105, to := x123.to }) ex123 rfl (z ?_)
        exact bk ⟨(i105 + 1, _, _, (ts1_105 + 1), (ts2_105 + 1)), hq105⟩
       ·rw [if_neg h118] at hq105
        refine ed (z ?_)
        obtain ⟨hg124, hq105⟩ := aD hq105
        refine z ?_
        refine aH ({ lo := ↑i105, hi := 0, to := v117 }) rfl (z ?_)
        obtain ⟨hg125, hq105⟩ := aj hq105
        refine z ?_
        obtain ⟨j127, x127, en127, ex127, hq105⟩ := bL hq105
        refine aK en127 ex127 (z ?_)
        refine bT _ ({ lo := x127.lo, hi := ↑i105, to := x127.to }) ex127 rfl (z ?_)
        exact bk ⟨(i105 + 1, _, _, (ts1_105), (ts2_105 + 1)), hq105⟩
      ·rw [if_neg (nt h108)] at hq105
       obtain ⟨hg128, hq105⟩ := aj hq105
       refine z ?_
       obtain ⟨j130, x130, en130, ex130, hq105⟩ := bL hq105
       refine aK en130 ex130 (z ?_)
       refine bT _ ({ lo := x130.lo, hi := ↑i105, to := x130.to }) ex130 rfl (z ?_)
       exact bk ⟨(i105 + 1, _, _, (ts1_105), (ts2_105)), hq105⟩
     ·have h106' : ¬ (i105 : Int) < (((256) : Nat) : Int) := by (try simp only [List.length_map, List.length_replicate, List.length_set, List.length_append] at h106); omega
      rw [cA h106', cI] at hq105
      cases hq105
      dsimp only at hq3
      refine z ?_
      obtain ⟨hg131, hq3⟩ := aD hq3
      refine z ?_
      refine aH ({ acc := v9, aL := s2_105 }) rfl (z ?_)
      exact bk ⟨(n3, _, _, _, (ts1_105), (ts3_3 + 1)), hq3⟩
    ·rw [if_neg h104] at hq3
     refine bkd (fun h132 => z ?_) (fun h132 => z ?_)
     ·rw [if_pos h132] at hq3
      dsimp only [Option.bind_some] at hq3
      refine z ?_
      refine ei (z ?_)
      obtain ⟨v133, hv133, hq3⟩ := ae hq3
      refine bj 8 1 3 rfl rfl ?_
      refine lg (α := Nat × List dY × List Sv.Edge × Nat × Nat) aa (fun (iw, s1, s2, ts1, ts2) => (cI (v1) (v2) (x6) (jZ) (256 - iw) (iw : Int) s1 s2 = some v133, ⟨104, [(54, .int .i64 iw), (13, .ptr 9 0), (12, .ptr 8 0), (11, .ptr 7 0), (9, .own 6 ts3_3), (10, .int .i64 s1_3), (8, .func (.func 87) [] [.ptr 5 0]), (7, .ptr 5 0), (6, .ptr 3 0), (4, .ptr 2 0), (3, .ptr 1 0), (2, .func (.func fn) [] cap)]⟩, ⟨[(12, .row 3 (s2.map ck) ts2 false), (11, .cells [aC v2]), (10, .cells [aC v1]), (9, .cells ((jZ).map .bool)), (8, .cells [.bool v9, .own 12 ts2]), (7, .cells [.int .i64 x6.a, .int .i64 x6.b]), (6, .row 2 (List.map fu s3_3) ts3_3 false), (5, .cells [.own 4 ts1]), (4, .row 2 (s1.map eM) ts1 false), (3, .cells [.az]), (2, .cells [aC v2]), (1, .cells [aC v1]), (0, aS)], 13, 0, [], []⟩, (256) - iw)) ⟨(0, _, _, (ts2_3), (0)), hv133⟩ ?_
      rintro ⟨i133, s1_133, s2_133, ts1_133, ts2_133⟩ hq133
      dsimp only at hq133
      refine z ?_
      refine bkd (fun h134 => z ?_) (fun h134 => z ?_)
      ·have h134' : (i133 : Int) < (((256) : Nat) : Int) := by (try simp only [List.length_map, List.length_replicate, List.length_set, List.length_append] at h134); omega
       rw [cB h134', cI] at hq133
       refine z ?_
       obtain ⟨j135, x135, en135, ej135, ex135, hq133⟩ := gB hq133
       refine b5 en135 ej135 (z ?_)
       rw [dO ex135 (by (show _ + _ * 1 = _; omega)) rfl]
       refine z ?_
       refine brk (fun h136 => z ?_) (fun h136 => z ?_)
       ·rw [if_pos h136] at hq133
        refine dg aa [0,1,0,4,0,0,0,64,0,256,992,0,0,4096,0,16384,65504,131040,262128,524284,1048572,2097151,4194303,8388607] [⟨23,0,0,[8]⟩,⟨21,0,0,[12]⟩,⟨18,0,0,[5,4]⟩] (z ?_)
        obtain ⟨v143, e143, hq133⟩ := ae hq133
        refine ce (cT e143) (z ?_)
        obtain ⟨v144, e144, hq133⟩ := ae hq133
        refine ce (cT e144) (z ?_)
        refine cd aa Tryz.f87 (z ?_)
        obtain ⟨v145, e145, hq133⟩ := ae hq133
        refine bH (dz e145) rfl (z ?_)
        refine bkd (fun h146 => z ?_) (fun h146 => z ?_)
        ·rw [if_pos h146] at hq133
         obtain ⟨hg147, hq133⟩ := aD hq133
         refine z ?_
         refine aH ({ a := v143, b := v144 }) rfl (z ?_)
         refine ed (z ?_)
         obtain ⟨hg148, hq133⟩ := aD hq133
         refine z ?_
         refine aH ({ lo := ↑i133, hi := 0, to := ↑s1_133.length }) rfl (z ?_)
         obtain ⟨hg149, hq133⟩ := aj hq133
         refine z ?_
         obtain ⟨j151, x151, en151, ex151, hq133⟩ := bL hq133
         refine aK en151 ex151 (z ?_)
         refine bT _ ({ lo := x151.lo, hi := ↑i133, to := x151.to }) ex151 rfl (z ?_)
         exact bk ⟨(i133 + 1, _, _, (ts1_133 + 1), (ts2_133 + 1)), hq133⟩
        ·rw [if_neg h146] at hq133
         refine ed (z ?_)
         obtain ⟨hg152, hq133⟩ := aD hq133
         refine z ?_
         refine aH ({ lo := ↑i133, hi := 0, to := v145 }) rfl (z ?_)
         obtain ⟨hg153, hq133⟩ := aj hq133
         refine z ?_
         obtain ⟨j155, x155, en155, ex155, hq133⟩ := bL hq133
         refine aK en155 ex155 (z ?_)
         refine bT _ ({ lo := x155.lo, hi := ↑i133, to := x155.to }) ex155 rfl (z ?_)
         exact bk ⟨(i133 + 1, _, _, (ts1_133), (ts2_133 + 1)), hq133⟩
       ·rw [if_neg (nt h136)] at hq133
        obtain ⟨hg156, hq133⟩ := aj hq133
        refine z ?_
        obtain ⟨j158, x158, en158, ex158, hq133⟩ := bL hq133
        refine aK en158 ex158 (z ?_)
        refine bT _ ({ lo := x158.lo, hi := ↑i133, to := x158.to }) ex158 rfl (z ?_)
        exact bk ⟨(i133 + 1, _, _, (ts1_133), (ts2_133)), hq133⟩
      ·have h134' : ¬ (i133 : Int) < (((256) : Nat) : Int) := by (try simp only [List.length_map, List.length_replicate, List.length_set, List.length_append] at h134); omega
       rw [cA h134', cI] at hq133
       cases hq133
       dsimp only at hq3
       refine z ?_
       obtain ⟨hg159, hq3⟩ := aD hq3
       refine z ?_
       refine aH ({ acc := v9, aL := s2_133 }) rfl (z ?_)
       exact bk ⟨(n3, _, _, _, (ts1_133), (ts3_3 + 1)), hq3⟩
     ·rw [if_neg h132] at hq3
      rw [Option.bind_assoc] at hq3
      refine z ?_
      obtain ⟨j160, x160, en160, ex160, hq3⟩ := aB hq3
      refine bf en160 ex160 rfl ?_
      rw [Option.bind_assoc] at hq3
      refine z ?_
      obtain ⟨hg161, hq3⟩ := aj hq3
      obtain ⟨v162, hv162, hq3⟩ := ae hq3
      refine lg (α := Nat × List Bool) aa (fun (iw, s1) => (fL (List.drop iw (x160.aL)) s1 = some v162, ⟨43, [(24, .int .i64 iw), (23, .int .i64 ↑x160.aL.length), (22, .lst false (List.map ck x160.aL)), (10, .bool false), (14, .int .i64 ↑v2.length), (13, aC v2), (12, .ptr 11 0), (11, .int .i64 x6.b), (8, .int .i64 x6.b), (3, .ptr 11 0), (0, .agg [aC v2]), (2, .ptr 9 0)]⟩, ⟨[(11, .cells [aC v2]), (10, .cells [aC v1]), (9, .cells (s1.map .bool)), (8, .cells [.bool v9, .az]), (7, .cells [.int .i64 x6.a, .int .i64 x6.b]), (6, .row 2 (List.map fu s3_3) ts3_3 false), (5, .cells [.own 4 ts2_3]), (4, .row 2 (List.map eM s2_3) ts2_3 false), (3, .cells [.az]), (2, .cells [aC v2]), (1, .cells [aC v1]), (0, aS)], 12, 0, [], []⟩, List.length (x160.aL) - iw)) ⟨(0, _), hv162⟩ ?_
      rintro ⟨i162, s1_162⟩ hq162
      dsimp only at hq162
      refine z ?_
      refine bkd (fun h163 => z ?_) (fun h163 => z ?_)
      ·obtain ⟨x163, ex163, ed163⟩ := au h163
       rw [ed163, fL] at hq162
       refine z ?_
       refine a6 ex163 rfl (z ?_)
       refine dg aa [0,0,2,1,15,31] [] (z ?_)
       obtain ⟨j164, x164, en164, ej164, ex164, hq162⟩ := dF hq162
       refine b5 en164 ej164 (z ?_)
       rw [c9 ex164 (by (show _ + _ * 1 = _; omega))]
       refine z ?_
       refine bkd (fun h165 => z ?_) (fun h165 => z ?_)
       ·rw [if_pos h165] at hq162
        refine dg aa [0,0,2,6,1,31,63] [] (z ?_)
        obtain ⟨hg166, hq162⟩ := aj hq162
        refine z ?_
        obtain ⟨j168, x168, en168, ej168, ex168, hq162⟩ := dF hq162
        refine b5 en168 ej168 (z ?_)
        rw [c9 ex168 (by (show _ + _ * 1 = _; omega))]
        refine z ?_
        exact bk ⟨(i162 + 1, _), hq162⟩
       ·rw [if_neg h165] at hq162
        exact bk ⟨(i162 + 1, _), hq162⟩
      ·rw [av h163, fL] at hq162
       cases hq162
       refine z ?_
       refine ei (z ?_)
       obtain ⟨v169, hv169, hq3⟩ := ae hq3
       refine bj 8 1 3 rfl rfl ?_
       refine lg (α := Nat × List dY × List Sv.Edge × Nat × Nat) aa (fun (iw, s1, s2, ts1, ts2) => (cI (v1) (v2) (x6) (v162) (256 - iw) (iw : Int) s1 s2 = some v169, ⟨104, [(54, .int .i64 iw), (13, .ptr 9 0), (12, .ptr 8 0), (11, .ptr 7 0), (9, .own 6 ts3_3), (10, .int .i64 s1_3), (8, .func (.func 87) [] [.ptr 5 0]), (7, .ptr 5 0), (6, .ptr 3 0), (4, .ptr 2 0), (3, .ptr 1 0), (2, .func (.func fn) [] cap)]⟩, ⟨[(12, .row 3 (s2.map ck) ts2 false), (11, .cells [aC v2]), (10, .cells [aC v1]), (9, .cells ((v162).map .bool)), (8, .cells [.bool v9, .own 12 ts2]), (7, .cells [.int .i64 x6.a, .int .i64 x6.b]), (6, .row 2 (List.map fu s3_3) ts3_3 false), (5, .cells [.own 4 ts1]), (4, .row 2 (s1.map eM) ts1 false), (3, .cells [.az]), (2, .cells [aC v2]), (1, .cells [aC v1]), (0, aS)], 13, 0, [], []⟩, (256) - iw)) ⟨(0, _, _, (ts2_3), (0)), hv169⟩ ?_
       rintro ⟨i169, s1_169, s2_169, ts1_169, ts2_169⟩ hq169
       dsimp only at hq169
       refine z ?_
       refine bkd (fun h170 => z ?_) (fun h170 => z ?_)
       ·have h170' : (i169 : Int) < (((256) : Nat) : Int) := by (try simp only [List.length_map, List.length_replicate, List.length_set, List.length_append] at h170); omega
        rw [cB h170', cI] at hq169
        refine z ?_
        obtain ⟨j171, x171, en171, ej171, ex171, hq169⟩ := gB hq169
        refine b5 en171 ej171 (z ?_)
        rw [dO ex171 (by (show _ + _ * 1 = _; omega)) rfl]
        refine z ?_
        refine brk (fun h172 => z ?_) (fun h172 => z ?_)
        ·rw [if_pos h172] at hq169
         refine dg aa [0,1,0,4,0,0,0,64,0,256,992,0,0,4096,0,16384,65504,131040,262128,524284,1048572,2097151,4194303,8388607] [⟨23,0,0,[8]⟩,⟨21,0,0,[12]⟩,⟨18,0,0,[5,4]⟩] (z ?_)
         obtain ⟨v179, e179, hq169⟩ := ae hq169
         refine ce (cT e179) (z ?_)
         obtain ⟨v180, e180, hq169⟩ := ae hq169
         refine ce (cT e180) (z ?_)
         refine cd aa Tryz.f87 (z ?_)
         obtain ⟨v181, e181, hq169⟩ := ae hq169
         refine bH (dz e181) rfl (z ?_)
         refine bkd (fun h182 => z ?_) (fun h182 => z ?_)
         ·rw [if_pos h182] at hq169
          obtain ⟨hg183, hq169⟩ := aD hq169
          refine z ?_
          refine aH ({ a := v179, b := v180 }) rfl (z ?_)
          refine ed (z ?_)
          obtain ⟨hg184, hq169⟩ := aD hq169
          refine z ?_
          refine aH ({ lo := ↑i169, hi := 0, to := ↑s1_169.length }) rfl (z ?_)
          obtain ⟨hg185, hq169⟩ := aj hq169
          refine z ?_
          obtain ⟨j187, x187, en187, ex187, hq169⟩ := bL hq169
          refine aK en187 ex187 (z ?_)
          refine bT _ ({ lo := x187.lo, hi := ↑i169, to := x187.to }) ex187 rfl (z ?_)
          exact bk ⟨(i169 + 1, _, _, (ts1_169 + 1), (ts2_169 + 1)), hq169⟩
         ·rw [if_neg h182] at hq169
          refine ed (z ?_)
          obtain ⟨hg188, hq169⟩ := aD hq169
          refine z ?_
          refine aH ({ lo := ↑i169, hi := 0, to := v181 }) rfl (z ?_)
          obtain ⟨hg189, hq169⟩ := aj hq169
          refine z ?_
          obtain ⟨j191, x191, en191, ex191, hq169⟩ := bL hq169
          refine aK en191 ex191 (z ?_)
          refine bT _ ({ lo := x191.lo, hi := ↑i169, to := x191.to }) ex191 rfl (z ?_)
          exact bk ⟨(i169 + 1, _, _, (ts1_169), (ts2_169 + 1)), hq169⟩
        ·rw [if_neg (nt h172)] at hq169
         obtain ⟨hg192, hq169⟩ := aj hq169
         refine z ?_
         obtain ⟨j194, x194, en194, ex194, hq169⟩ := bL hq169
         refine aK en194 ex194 (z ?_)
         refine bT _ ({ lo := x194.lo, hi := ↑i169, to := x194.to }) ex194 rfl (z ?_)
         exact bk ⟨(i169 + 1, _, _, (ts1_169), (ts2_169)), hq169⟩
       ·have h170' : ¬ (i169 : Int) < (((256) : Nat) : Int) := by (try simp only [List.length_map, List.length_replicate, List.length_set, List.length_append] at h170); omega
        rw [cA h170', cI] at hq169
        cases hq169
        dsimp only at hq3
        refine z ?_
        obtain ⟨hg195, hq3⟩ := aD hq3
        refine z ?_
        refine aH ({ acc := v9, aL := s2_169 }) rfl (z ?_)
        exact bk ⟨(n3, _, _, _, (ts1_169), (ts3_3 + 1)), hq3⟩
   ·rw [if_neg h103] at hq3
    rw [Option.bind_assoc] at hq3
    refine z ?_
    obtain ⟨j196, x196, en196, ex196, hq3⟩ := aB hq3
    refine bf en196 ex196 rfl ?_
    rw [Option.bind_assoc] at hq3
    refine z ?_
    obtain ⟨hg197, hq3⟩ := aj hq3
    obtain ⟨v198, hv198, hq3⟩ := ae hq3
    refine lg (α := Nat × List Bool) aa (fun (iw, s1) => (fL (List.drop iw (x196.aL)) s1 = some v198, ⟨43, [(24, .int .i64 iw), (23, .int .i64 ↑x196.aL.length), (22, .lst false (List.map ck x196.aL)), (10, .bool false), (14, .int .i64 ↑v1.length), (13, aC v1), (12, .ptr 10 0), (11, .int .i64 x6.a), (8, .int .i64 x6.a), (3, .ptr 10 0), (0, .agg [aC v1]), (2, .ptr 9 0)]⟩, ⟨[(10, .cells [aC v1]), (9, .cells (s1.map .bool)), (8, .cells [.bool v9, .az]), (7, .cells [.int .i64 x6.a, .int .i64 x6.b]), (6, .row 2 (List.map fu s3_3) ts3_3 false), (5, .cells [.own 4 ts2_3]), (4, .row 2 (List.map eM s2_3) ts2_3 false), (3, .cells [.az]), (2, .cells [aC v2]), (1, .cells [aC v1]), (0, aS)], 11, 0, [], []⟩, List.length (x196.aL) - iw)) ⟨(0, _), hv198⟩ ?_
    rintro ⟨i198, s1_198⟩ hq198
    dsimp only at hq198
    refine z ?_
    refine bkd (fun h199 => z ?_) (fun h199 => z ?_)
    ·obtain ⟨x199, ex199, ed199⟩ := au h199
     rw [ed199, fL] at hq198
     refine z ?_
     refine a6 ex199 rfl (z ?_)
     refine dg aa [0,0,2,1,15,31] [] (z ?_)
     obtain ⟨j200, x200, en200, ej200, ex200, hq198⟩ := dF hq198
     refine b5 en200 ej200 (z ?_)
     rw [c9 ex200 (by (show _ + _ * 1 = _; omega))]
     refine z ?_
     refine bkd (fun h201 => z ?_) (fun h201 => z ?_)
     ·rw [if_pos h201] at hq198
      refine dg aa [0,0,2,6,1,31,63] [] (z ?_)
      obtain ⟨hg202, hq198⟩ := aj hq198
      refine z ?_
      obtain ⟨j204, x204, en204, ej204, ex204, hq198⟩ := dF hq198
      refine b5 en204 ej204 (z ?_)
      rw [c9 ex204 (by (show _ + _ * 1 = _; omega))]
      refine z ?_
      exact bk ⟨(i198 + 1, _), hq198⟩
     ·rw [if_neg h201] at hq198
      exact bk ⟨(i198 + 1, _), hq198⟩
    ·rw [av h199, fL] at hq198
     cases hq198
     refine z ?_
     refine ei (z ?_)
     refine ci aa Tryz.f90 (z ?_)
     refine bkd (fun h205 => z ?_) (fun h205 => z ?_)
     ·rw [if_pos h205] at hq3
      dsimp only [Option.bind_some] at hq3
      refine z ?_
      refine ei (z ?_)
      obtain ⟨v206, hv206, hq3⟩ := ae hq3
      refine bj 8 1 3 rfl rfl ?_
      refine lg (α := Nat × List dY × List Sv.Edge × Nat × Nat) aa (fun (iw, s1, s2, ts1, ts2) => (cI (v1) (v2) (x6) (v198) (256 - iw) (iw : Int) s1 s2 = some v206, ⟨104, [(54, .int .i64 iw), (13, .ptr 9 0), (12, .ptr 8 0), (11, .ptr 7 0), (9, .own 6 ts3_3), (10, .int .i64 s1_3), (8, .func (.func 87) [] [.ptr 5 0]), (7, .ptr 5 0), (6, .ptr 3 0), (4, .ptr 2 0), (3, .ptr 1 0), (2, .func (.func fn) [] cap)]⟩, ⟨[(12, .row 3 (s2.map ck) ts2 false), (11, .cells [aC v2]), (10, .cells [aC v1]), (9, .cells ((v198).map .bool)), (8, .cells [.bool v9, .own 12 ts2]), (7, .cells [.int .i64 x6.a, .int .i64 x6.b]), (6, .row 2 (List.map fu s3_3) ts3_3 false), (5, .cells [.own 4 ts1]), (4, .row 2 (s1.map eM) ts1 false), (3, .cells [.az]), (2, .cells [aC v2]), (1, .cells [aC v1]), (0, aS)], 13, 0, [], []⟩, (256) - iw)) ⟨(0, _, _, (ts2_3), (0)), hv206⟩ ?_
      rintro ⟨i206, s1_206, s2_206, ts1_206, ts2_206⟩ hq206
      dsimp only at hq206
      refine z ?_
      refine bkd (fun h207 => z ?_) (fun h207 => z ?_)
      ·have h207' : (i206 : Int) < (((256) : Nat) : Int) := by (try simp only [List.length_map, List.length_replicate, List.length_set, List.length_append] at h207); omega
       rw [cB h207', cI] at hq206
       refine z ?_
       obtain ⟨j208, x208, en208, ej208, ex208, hq206⟩ := gB hq206
       refine b5 en208 ej208 (z ?_)
       rw [dO ex208 (by (show _ + _ * 1 = _; omega)) rfl]
       refine z ?_
       refine brk (fun h209 => z ?_) (fun h209 => z ?_)
       ·rw [if_pos h209] at hq206
        refine dg aa [0,1,0,4,0,0,0,64,0,256,992,0,0,4096,0,16384,65504,131040,262128,524284,1048572,2097151,4194303,8388607] [⟨23,0,0,[8]⟩,⟨21,0,0,[12]⟩,⟨18,0,0,[5,4]⟩] (z ?_)
        obtain ⟨v216, e216, hq206⟩ := ae hq206
        refine ce (cT e216) (z ?_)
        obtain ⟨v217, e217, hq206⟩ := ae hq206
        refine ce (cT e217) (z ?_)
        refine cd aa Tryz.f87 (z ?_)
        obtain ⟨v218, e218, hq206⟩ := ae hq206
        refine bH (dz e218) rfl (z ?_)
        refine bkd (fun h219 => z ?_) (fun h219 => z ?_)
        ·rw [if_pos h219] at hq206
         obtain ⟨hg220, hq206⟩ := aD hq206
         refine z ?_
         refine aH ({ a := v216, b := v217 }) rfl (z ?_)
         refine ed (z ?_)
         obtain ⟨hg221, hq206⟩ := aD hq206
         refine z ?_
         refine aH ({ lo := ↑i206, hi := 0, to := ↑s1_206.length }) rfl (z ?_)
         obtain ⟨hg222, hq206⟩ := aj hq206
         refine z ?_
         obtain ⟨j224, x224, en224, ex224, hq206⟩ := bL hq206
         refine aK en224 ex224 (z ?_)
         refine bT _ ({ lo := x224.lo, hi := ↑i206, to := x224.to }) ex224 rfl (z ?_)
         exact bk ⟨(i206 + 1, _, _, (ts1_206 + 1), (ts2_206 + 1)), hq206⟩
        ·rw [if_neg h219] at hq206
         refine ed (z ?_)
         obtain ⟨hg225, hq206⟩ := aD hq206
         refine z ?_
         refine aH ({ lo := ↑i206, hi := 0, to := v218 }) rfl (z ?_)
         obtain ⟨hg226, hq206⟩ := aj hq206
         refine z ?_
         obtain ⟨j228, x228, en228, ex228, hq206⟩ := bL hq206
         refine aK en228 ex228 (z ?_)
         refine bT _ ({ lo := x228.lo, hi := ↑i206, to := x228.to }) ex228 rfl (z ?_)
         exact bk ⟨(i206 + 1, _, _, (ts1_206), (ts2_206 + 1)), hq206⟩
       ·rw [if_neg (nt h209)] at hq206
        obtain ⟨hg229, hq206⟩ := aj hq206
        refine z ?_
        obtain ⟨j231, x231, en231, ex231, hq206⟩ := bL hq206
        refine aK en231 ex231 (z ?_)
        refine bT _ ({ lo := x231.lo, hi := ↑i206, to := x231.to }) ex231 rfl (z ?_)
        exact bk ⟨(i206 + 1, _, _, (ts1_206), (ts2_206)), hq206⟩
      ·have h207' : ¬ (i206 : Int) < (((256) : Nat) : Int) := by (try simp only [List.length_map, List.length_replicate, List.length_set, List.length_append] at h207); omega
       rw [cA h207', cI] at hq206
       cases hq206
       dsimp only at hq3
       refine z ?_
       obtain ⟨hg232, hq3⟩ := aD hq3
       refine z ?_
       refine aH ({ acc := v9, aL := s2_206 }) rfl (z ?_)
       exact bk ⟨(n3, _, _, _, (ts1_206), (ts3_3 + 1)), hq3⟩
     ·rw [if_neg h205] at hq3
      refine bkd (fun h233 => z ?_) (fun h233 => z ?_)
      ·rw [if_pos h233] at hq3
       dsimp only [Option.bind_some] at hq3
       refine z ?_
       refine ei (z ?_)
       obtain ⟨v234, hv234, hq3⟩ := ae hq3
       refine bj 8 1 3 rfl rfl ?_
       refine lg (α := Nat × List dY × List Sv.Edge × Nat × Nat) aa (fun (iw, s1, s2, ts1, ts2) => (cI (v1) (v2) (x6) (v198) (256 - iw) (iw : Int) s1 s2 = some v234, ⟨104, [(54, .int .i64 iw), (13, .ptr 9 0), (12, .ptr 8 0), (11, .ptr 7 0), (9, .own 6 ts3_3), (10, .int .i64 s1_3), (8, .func (.func 87) [] [.ptr 5 0]), (7, .ptr 5 0), (6, .ptr 3 0), (4, .ptr 2 0), (3, .ptr 1 0), (2, .func (.func fn) [] cap)]⟩, ⟨[(12, .row 3 (s2.map ck) ts2 false), (11, .cells [aC v2]), (10, .cells [aC v1]), (9, .cells ((v198).map .bool)), (8, .cells [.bool v9, .own 12 ts2]), (7, .cells [.int .i64 x6.a, .int .i64 x6.b]), (6, .row 2 (List.map fu s3_3) ts3_3 false), (5, .cells [.own 4 ts1]), (4, .row 2 (s1.map eM) ts1 false), (3, .cells [.az]), (2, .cells [aC v2]), (1, .cells [aC v1]), (0, aS)], 13, 0, [], []⟩, (256) - iw)) ⟨(0, _, _, (ts2_3), (0)), hv234⟩ ?_
       rintro ⟨i234, s1_234, s2_234, ts1_234, ts2_234⟩ hq234
       dsimp only at hq234
       refine z ?_
       refine bkd (fun h235 => z ?_) (fun h235 => z ?_)
       ·have h235' : (i234 : Int) < (((256) : Nat) : Int) := by (try simp only [List.length_map, List.length_replicate, List.length_set, List.length_append] at h235); omega
        rw [cB h235', cI] at hq234
        refine z ?_
        obtain ⟨j236, x236, en236, ej236, ex236, hq234⟩ := gB hq234
        refine b5 en236 ej236 (z ?_)
        rw [dO ex236 (by (show _ + _ * 1 = _; omega)) rfl]
        refine z ?_
        refine brk (fun h237 => z ?_) (fun h237 => z ?_)
        ·rw [if_pos h237] at hq234
         refine dg aa [0,1,0,4,0,0,0,64,0,256,992,0,0,4096,0,16384,65504,131040,262128,524284,1048572,2097151,4194303,8388607] [⟨23,0,0,[8]⟩,⟨21,0,0,[12]⟩,⟨18,0,0,[5,4]⟩] (z ?_)
         obtain ⟨v244, e244, hq234⟩ := ae hq234
         refine ce (cT e244) (z ?_)
         obtain ⟨v245, e245, hq234⟩ := ae hq234
         refine ce (cT e245) (z ?_)
         refine cd aa Tryz.f87 (z ?_)
         obtain ⟨v246, e246, hq234⟩ := ae hq234
         refine bH (dz e246) rfl (z ?_)
         refine bkd (fun h247 => z ?_) (fun h247 => z ?_)
         ·rw [if_pos h247] at hq234
          obtain ⟨hg248, hq234⟩ := aD hq234
          refine z ?_
          refine aH ({ a := v244, b := v245 }) rfl (z ?_)
          refine ed (z ?_)
          obtain ⟨hg249, hq234⟩ := aD hq234
          refine z ?_
          refine aH ({ lo := ↑i234, hi := 0, to := ↑s1_234.length }) rfl (z ?_)
          obtain ⟨hg250, hq234⟩ := aj hq234
          refine z ?_
          obtain ⟨j252, x252, en252, ex252, hq234⟩ := bL hq234
          refine aK en252 ex252 (z ?_)
          refine bT _ ({ lo := x252.lo, hi := ↑i234, to := x252.to }) ex252 rfl (z ?_)
          exact bk ⟨(i234 + 1, _, _, (ts1_234 + 1), (ts2_234 + 1)), hq234⟩
         ·rw [if_neg h247] at hq234
          refine ed (z ?_)
          obtain ⟨hg253, hq234⟩ := aD hq234
          refine z ?_
          refine aH ({ lo := ↑i234, hi := 0, to := v246 }) rfl (z ?_)
          obtain ⟨hg254, hq234⟩ := aj hq234
          refine z ?_
          obtain ⟨j256, x256, en256, ex256, hq234⟩ := bL hq234
          refine aK en256 ex256 (z ?_)
          refine bT _ ({ lo := x256.lo, hi := ↑i234, to := x256.to }) ex256 rfl (z ?_)
          exact bk ⟨(i234 + 1, _, _, (ts1_234), (ts2_234 + 1)), hq234⟩
        ·rw [if_neg (nt h237)] at hq234
         obtain ⟨hg257, hq234⟩ := aj hq234
         refine z ?_
         obtain ⟨j259, x259, en259, ex259, hq234⟩ := bL hq234
         refine aK en259 ex259 (z ?_)
         refine bT _ ({ lo := x259.lo, hi := ↑i234, to := x259.to }) ex259 rfl (z ?_)
         exact bk ⟨(i234 + 1, _, _, (ts1_234), (ts2_234)), hq234⟩
       ·have h235' : ¬ (i234 : Int) < (((256) : Nat) : Int) := by (try simp only [List.length_map, List.length_replicate, List.length_set, List.length_append] at h235); omega
        rw [cA h235', cI] at hq234
        cases hq234
        dsimp only at hq3
        refine z ?_
        obtain ⟨hg260, hq3⟩ := aD hq3
        refine z ?_
        refine aH ({ acc := v9, aL := s2_234 }) rfl (z ?_)
        exact bk ⟨(n3, _, _, _, (ts1_234), (ts3_3 + 1)), hq3⟩
      ·rw [if_neg h233] at hq3
       rw [Option.bind_assoc] at hq3
       refine z ?_
       obtain ⟨j261, x261, en261, ex261, hq3⟩ := aB hq3
       refine bf en261 ex261 rfl ?_
       rw [Option.bind_assoc] at hq3
       refine z ?_
       obtain ⟨hg262, hq3⟩ := aj hq3
       obtain ⟨v263, hv263, hq3⟩ := ae hq3
       refine lg (α := Nat × List Bool) aa (fun (iw, s1) => (fL (List.drop iw (x261.aL)) s1 = some v263, ⟨43, [(24, .int .i64 iw), (23, .int .i64 ↑x261.aL.length), (22, .lst false (List.map ck x261.aL)), (10, .bool false), (14, .int .i64 ↑v2.length), (13, aC v2), (12, .ptr 11 0), (11, .int .i64 x6.b), (8, .int .i64 x6.b), (3, .ptr 11 0), (0, .agg [aC v2]), (2, .ptr 9 0)]⟩, ⟨[(11, .cells [aC v2]), (10, .cells [aC v1]), (9, .cells (s1.map .bool)), (8, .cells [.bool v9, .az]), (7, .cells [.int .i64 x6.a, .int .i64 x6.b]), (6, .row 2 (List.map fu s3_3) ts3_3 false), (5, .cells [.own 4 ts2_3]), (4, .row 2 (List.map eM s2_3) ts2_3 false), (3, .cells [.az]), (2, .cells [aC v2]), (1, .cells [aC v1]), (0, aS)], 12, 0, [], []⟩, List.length (x261.aL) - iw)) ⟨(0, _), hv263⟩ ?_
       rintro ⟨i263, s1_263⟩ hq263
       dsimp only at hq263
       refine z ?_
       refine bkd (fun h264 => z ?_) (fun h264 => z ?_)
       ·obtain ⟨x264, ex264, ed264⟩ := au h264
        rw [ed264, fL] at hq263
        refine z ?_
        refine a6 ex264 rfl (z ?_)
        refine dg aa [0,0,2,1,15,31] [] (z ?_)
        obtain ⟨j265, x265, en265, ej265, ex265, hq263⟩ := dF hq263
        refine b5 en265 ej265 (z ?_)
        rw [c9 ex265 (by (show _ + _ * 1 = _; omega))]
        refine z ?_
        refine bkd (fun h266 => z ?_) (fun h266 => z ?_)
        ·rw [if_pos h266] at hq263
         refine dg aa [0,0,2,6,1,31,63] [] (z ?_)
         obtain ⟨hg267, hq263⟩ := aj hq263
         refine z ?_
         obtain ⟨j269, x269, en269, ej269, ex269, hq263⟩ := dF hq263
         refine b5 en269 ej269 (z ?_)
         rw [c9 ex269 (by (show _ + _ * 1 = _; omega))]
         refine z ?_
         exact bk ⟨(i263 + 1, _), hq263⟩
        ·rw [if_neg h266] at hq263
         exact bk ⟨(i263 + 1, _), hq263⟩
       ·rw [av h264, fL] at hq263
        cases hq263
        refine z ?_
        refine ei (z ?_)
        obtain ⟨v270, hv270, hq3⟩ := ae hq3
        refine bj 8 1 3 rfl rfl ?_
        refine lg (α := Nat × List dY × List Sv.Edge × Nat × Nat) aa (fun (iw, s1, s2, ts1, ts2) => (cI (v1) (v2) (x6) (v263) (256 - iw) (iw : Int) s1 s2 = some v270, ⟨104, [(54, .int .i64 iw), (13, .ptr 9 0), (12, .ptr 8 0), (11, .ptr 7 0), (9, .own 6 ts3_3), (10, .int .i64 s1_3), (8, .func (.func 87) [] [.ptr 5 0]), (7, .ptr 5 0), (6, .ptr 3 0), (4, .ptr 2 0), (3, .ptr 1 0), (2, .func (.func fn) [] cap)]⟩, ⟨[(12, .row 3 (s2.map ck) ts2 false), (11, .cells [aC v2]), (10, .cells [aC v1]), (9, .cells ((v263).map .bool)), (8, .cells [.bool v9, .own 12 ts2]), (7, .cells [.int .i64 x6.a, .int .i64 x6.b]), (6, .row 2 (List.map fu s3_3) ts3_3 false), (5, .cells [.own 4 ts1]), (4, .row 2 (s1.map eM) ts1 false), (3, .cells [.az]), (2, .cells [aC v2]), (1, .cells [aC v1]), (0, aS)], 13, 0, [], []⟩, (256) - iw)) ⟨(0, _, _, (ts2_3), (0)), hv270⟩ ?_
        rintro ⟨i270, s1_270, s2_270, ts1_270, ts2_270⟩ hq270
        dsimp only at hq270
        refine z ?_
        refine bkd (fun h271 => z ?_) (fun h271 => z ?_)
        ·have h271' : (i270 : Int) < (((256) : Nat) : Int) := by (try simp only [List.length_map, List.length_replicate, List.length_set, List.length_append] at h271); omega
         rw [cB h271', cI] at hq270
         refine z ?_
         obtain ⟨j272, x272, en272, ej272, ex272, hq270⟩ := gB hq270
         refine b5 en272 ej272 (z ?_)
         rw [dO ex272 (by (show _ + _ * 1 = _; omega)) rfl]
         refine z ?_
         refine brk (fun h273 => z ?_) (fun h273 => z ?_)
         ·rw [if_pos h273] at hq270
          refine dg aa [0,1,0,4,0,0,0,64,0,256,992,0,0,4096,0,16384,65504,131040,262128,524284,1048572,2097151,4194303,8388607] [⟨23,0,0,[8]⟩,⟨21,0,0,[12]⟩,⟨18,0,0,[5,4]⟩] (z ?_)
          obtain ⟨v280, e280, hq270⟩ := ae hq270
          refine ce (cT e280) (z ?_)
          obtain ⟨v281, e281, hq270⟩ := ae hq270
          refine ce (cT e281) (z ?_)
          refine cd aa Tryz.f87 (z ?_)
          obtain ⟨v282, e282, hq270⟩ := ae hq270
          refine bH (dz e282) rfl (z ?_)
          refine bkd (fun h283 => z ?_) (fun h283 => z ?_)
          ·rw [if_pos h283] at hq270
           obtain ⟨hg284, hq270⟩ := aD hq270
           refine z ?_
           refine aH ({ a := v280, b := v281 }) rfl (z ?_)
           refine ed (z ?_)
           obtain ⟨hg285, hq270⟩ := aD hq270
           refine z ?_
           refine aH ({ lo := ↑i270, hi := 0, to := ↑s1_270.length }) rfl (z ?_)
           obtain ⟨hg286, hq270⟩ := aj hq270
           refine z ?_
           obtain ⟨j288, x288, en288, ex288, hq270⟩ := bL hq270
           refine aK en288 ex288 (z ?_)
           refine bT _ ({ lo := x288.lo, hi := ↑i270, to := x288.to }) ex288 rfl (z ?_)
           exact bk ⟨(i270 + 1, _, _, (ts1_270 + 1), (ts2_270 + 1)), hq270⟩
          ·rw [if_neg h283] at hq270
           refine ed (z ?_)
           obtain ⟨hg289, hq270⟩ := aD hq270
           refine z ?_
           refine aH ({ lo := ↑i270, hi := 0, to := v282 }) rfl (z ?_)
           obtain ⟨hg290, hq270⟩ := aj hq270
           refine z ?_
           obtain ⟨j292, x292, en292, ex292, hq270⟩ := bL hq270
           refine aK en292 ex292 (z ?_)
           refine bT _ ({ lo := x292.lo, hi := ↑i270, to := x292.to }) ex292 rfl (z ?_)
           exact bk ⟨(i270 + 1, _, _, (ts1_270), (ts2_270 + 1)), hq270⟩
         ·rw [if_neg (nt h273)] at hq270
          obtain ⟨hg293, hq270⟩ := aj hq270
          refine z ?_
          obtain ⟨j295, x295, en295, ex295, hq270⟩ := bL hq270
          refine aK en295 ex295 (z ?_)
          refine bT _ ({ lo := x295.lo, hi := ↑i270, to := x295.to }) ex295 rfl (z ?_)
          exact bk ⟨(i270 + 1, _, _, (ts1_270), (ts2_270)), hq270⟩
        ·have h271' : ¬ (i270 : Int) < (((256) : Nat) : Int) := by (try simp only [List.length_map, List.length_replicate, List.length_set, List.length_append] at h271); omega
         rw [cA h271', cI] at hq270
         cases hq270
         dsimp only at hq3
         refine z ?_
         obtain ⟨hg296, hq3⟩ := aD hq3
         refine z ?_
         refine aH ({ acc := v9, aL := s2_270 }) rfl (z ?_)
         exact bk ⟨(n3, _, _, _, (ts1_270), (ts3_3 + 1)), hq3⟩
 ·rw [if_neg h5] at hq3
  cases hq3
  refine z ?_
  obtain ⟨v297, e297, hm⟩ := ae hm
  refine bq (q6 e297) (z ?_)
  cases hm
  exact mst
end Go.Proofs.YtmjddpeookapaaaGreatDoor
