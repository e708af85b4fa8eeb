/- For ConcreteHidden: functions of the program, walked beside Lean functions that say what they compute. -/
import Derived.Test.YtmjddpeookapaaaGreatDoorEn
import Derived.KernelRfl
import Derived.Test.YtmjddpeookapaaaGreatDoorSvG
import Derived.Test.YtmjddpeookapaaaGreatDoorCL
import Derived.Shelf.Strconv.Itoa3
set_option linter.unusedVariables false
set_option linter.unusedSimpArgs false
set_option linter.unusedSectionVars false
namespace Go.Proofs.YtmjddpeookapaaaGreatDoor
open Sv
set_option maxRecDepth 100000
def wfE (n : Nat) (all : List Sv.Edge) : List Sv.Edge → Int → Option (Ctl Bool Unit)
 | [], _ => some (.nxt ())
 | e :: r, i =>
  if e.lo > e.hi then some (.ret false) else
  if e.to < 0 then some (.ret false) else
  if e.to ≥ n then some (.ret false) else
  if i > 0 then
   (atI all (i - 1)).bind fun p => if p.hi ≥ e.lo then some (.ret false) else wfE n all r (i + 1)
  else wfE n all r (i + 1)
def wfL (n : Nat) : List Stt → Option Bool
 | [] => some true
 | s :: r => (aN s.aL).bind fun _ => (wfE n s.aL s.aL 0).bind fun
  | .ret b => some b
  | .nxt () => wfL n r
def wfM (l : List Stt) : Option Bool := (aN l).bind fun _ => wfL l.length l
theorem lp {l : List Stt} {r : Bool} (hm : wfM l = some r) : Has Tryz.prog 125 [aC l] fun s => s = .bool r := by
 refine hs aa Tryz.f125 ?_
 unfold wfM at hm
 refine z ?_
 obtain ⟨hg1, hm⟩ := aj hm
 refine lg (α := Nat) aa (fun iw => (wfL (l.length) (List.drop iw (l)) = some r, ⟨56, [(9, .int .i64 iw), (8, .int .i64 ↑l.length), (7, aC l), (2, .bool false), (0, aC l)]⟩, ⟨[], 0, 0, [], []⟩, List.length (l) - iw)) ⟨(0), hm⟩ ?_
 intro i2 hq2
 dsimp only at hq2
 refine z ?_
 refine bkd (fun h3 => z ?_) (fun h3 => z ?_)
 obtain ⟨x3, ex3, ed3⟩ := au h3
 rw [ed3, wfL] at hq2
 refine z ?_
 obtain ⟨hg4, hq2⟩ := aj hq2
 refine a6 ex3 rfl (z ?_)
 obtain ⟨v5, hv5, hq2⟩ := ae hq2
 refine lg (α := Nat) aa (fun iw => (wfE (l.length) (x3.aL) (List.drop iw (x3.aL)) (iw : Int) = some v5, ⟨56, [(16, .int .i64 iw), (15, .int .i64 ↑x3.aL.length), (14, .lst false (List.map ck x3.aL)), (4, .ptr 0 0), (9, .int .i64 ↑i2), (8, .int .i64 ↑l.length), (7, aC l), (2, .bool false), (0, aC l)]⟩, ⟨[(0, .cells [.bool x3.acc, .lst false (List.map ck x3.aL)])], 1, 0, [], []⟩, List.length (x3.aL) - iw)) ⟨(0), hv5⟩ ?_
 intro i5 hq5
 dsimp only at hq5
 refine z ?_
 refine bkd (fun h6 => z ?_) (fun h6 => z ?_)
 obtain ⟨x6, ex6, ed6⟩ := au h6
 rw [ed6, wfE] at hq5
 refine z ?_
 refine a6 ex6 rfl (z ?_)
 refine dg aa [0,1,0,4,15,31,63,127,255,511,1023,2047,4095,2047,10239,32767,65535,131071,262143,524287,1048575,2097151,4194303,2097151,10485759,33554431,67108863,134217727,2097151,270532607,1073741823,2147483647,4294967295] [] (z ?_)
 refine bkd (fun h7 => z ?_) (fun h7 => z ?_)
 rw [if_pos h7] at hq5
 cases hq5
 dsimp only at hq2
 refine z ?_
 cases hq2
 exact fc
 rw [if_neg h7] at hq5
 refine bkd (fun h8 => z ?_) (fun h8 => z ?_)
 rw [if_pos h8] at hq5
 cases hq5
 dsimp only at hq2
 refine z ?_
 cases hq2
 exact fc
 rw [if_neg h8] at hq5
 refine bkd (fun h9 => z ?_) (fun h9 => z ?_)
 rw [if_pos h9] at hq5
 cases hq5
 dsimp only at hq2
 refine z ?_
 cases hq2
 exact fc
 rw [if_neg h9] at hq5
 refine bkd (fun h10 => z ?_) (fun h10 => z ?_)
 rw [if_pos h10] at hq5
 obtain ⟨j11, x11, en11, ex11, hq5⟩ := aB hq5
 refine bf en11 ex11 rfl (z ?_)
 refine bkd (fun h12 => z ?_) (fun h12 => z ?_)
 rw [if_pos h12] at hq5
 cases hq5
 dsimp only at hq2
 refine z ?_
 cases hq2
 exact fc
 rw [if_neg h12] at hq5
 exact bk ⟨i5 + 1, hq5⟩
 rw [if_neg h10] at hq5
 exact bk ⟨i5 + 1, hq5⟩
 rw [av h6, wfE] at hq5
 cases hq5
 dsimp only at hq2
 refine z ?_
 exact bk ⟨i2 + 1, hq2⟩
 rw [av h3, wfL] at hq2
 cases hq2
 exact fc
section
variable {α : Type}
def iA (g : α → α → Option Bool) (b : List α) : List α → Int → Option Bool
 | [], _ => some true
 | x :: r, i => (atI b i).bind fun y => (g x y).bind fun ok => if ok then iA g b r (i + 1) else some false
def jm (g : α → α → Option Bool) (a b : List α) : Option Bool :=
 if (a.length : Int) = b.length then (aN a).bind fun _ => iA g b a 0 else some false
end
theorem eqState_ok {fn : FuncId} {cap : List SVal} (hc : aw cap = true) (hw : cg cap = cap) {g : Stt → Stt → Option Bool} (hg : ∀ {x y r}, g x y = some r → Has Tryz.prog fn (.agg (fu x) :: .agg (fu y) :: cap) fun s => s = .bool r) {a b : List Stt} {r : Bool} (hm : jm g a b = some r) : Has Tryz.prog 170 [aC a, aC b, .func (.func fn) [] cap] fun s => s = .bool r := by
 refine hs aa Tryz.f170 ?_
 unfold jm at hm
 refine z ?_
 refine bkn (fun h1 => z ?_) (fun h1 => z ?_)
 rw [if_neg h1] at hm
 cases hm
 exact fc
 rw [if_pos h1] at hm
 obtain ⟨hg2, hm⟩ := aj hm
 refine lg (α := Nat) aa (fun iw => (iA (g) (b) (List.drop iw (a)) (iw : Int) = some r, ⟨32, [(17, .int .i64 iw), (16, .int .i64 ↑a.length), (15, aC a), (6, .bool false), (1, aC b), (2, .func (.func fn) [] cap)]⟩, ⟨[], 0, 0, [], []⟩, List.length (a) - iw)) ⟨(0), hm⟩ ?_
 intro i3 hq3
 dsimp only at hq3
 refine z ?_
 refine bkd (fun h4 => z ?_) (fun h4 => z ?_)
 obtain ⟨x4, ex4, ed4⟩ := au h4
 rw [ed4, iA] at hq3
 refine z ?_
 refine a6 ex4 rfl (z ?_)
 obtain ⟨j5, x5, en5, ex5, hq3⟩ := aB hq3
 refine bf en5 ex5 rfl (z ?_)
 obtain ⟨v6, e6, hq3⟩ := ae hq3
 refine k7 (hg e6) (by (simp only [cg, iG, hw]; try rfl)) (z ?_)
 refine bkm (fun h7 => z ?_) (fun h7 => z ?_)
 rw [if_neg (nt h7)] at hq3
 cases hq3
 exact fc
 rw [if_pos h7] at hq3
 exact bk ⟨i3 + 1, hq3⟩
 rw [av h4, iA] at hq3
 cases hq3
 exact fc
abbrev edgeEq (x y : Sv.Edge) : Bool := decide (x.lo = y.lo) && (decide (x.hi = y.hi) && (decide (x.to = y.to) && true))
def iV (b : List Sv.Edge) : List Sv.Edge → Int → Option Bool
 | [], _ => some true
 | x :: r, i => (atI b i).bind fun y =>
  if edgeEq x y then iV b r (i + 1) else some false
def pQ (a b : List Sv.Edge) : Option Bool :=
 if (a.length : Int) = b.length then (aN a).bind fun _ => iV b a 0 else some false
theorem eqEdges_ok {a b : List Sv.Edge} {r : Bool} (hm : pQ a b = some r) : Has Tryz.prog 172 [.lst false (a.map ck), .lst false (b.map ck)] fun s => s = .bool r := by
 refine hs aa Tryz.f172 ?_
 unfold pQ at hm
 refine z ?_
 refine bkn (fun h1 => z ?_) (fun h1 => z ?_)
 rw [if_neg h1] at hm
 cases hm
 exact fc
 rw [if_pos h1] at hm
 obtain ⟨hg2, hm⟩ := aj hm
 refine lg (α := Nat) aa (fun iw => (iV (b) (List.drop iw (a)) (iw : Int) = some r, ⟨26, [(13, .int .i64 iw), (12, .int .i64 ↑a.length), (4, .bool false), (0, .lst false (List.map ck a)), (1, .lst false (List.map ck b))]⟩, ⟨[], 0, 0, [], []⟩, List.length (a) - iw)) ⟨(0), hm⟩ ?_
 intro i3 hq3
 dsimp only at hq3
 refine z ?_
 refine bkd (fun h4 => z ?_) (fun h4 => z ?_)
 obtain ⟨x4, ex4, ed4⟩ := au h4
 rw [ed4, iV] at hq3
 refine z ?_
 refine dg aa [0,0,3,7,0,0,48,112,255] [] (z ?_)
 refine a6 ex4 rfl (z ?_)
 obtain ⟨j5, x5, en5, ex5, hq3⟩ := aB hq3
 refine bf en5 ex5 rfl (z ?_)
 refine bkm (fun h6 => z ?_) (fun h6 => z ?_)
 rw [if_neg (nt h6)] at hq3
 cases hq3
 exact fc
 rw [if_pos h6] at hq3
 exact bk ⟨i3 + 1, hq3⟩
 rw [av h4, iV] at hq3
 cases hq3
 exact fc
def xv (a b : Stt) : Option Bool := if (a.acc == b.acc) then pQ a.aL b.aL else some false
theorem same1_ok {a b : Stt} {r : Bool} (hm : xv a b = some r) : Has Tryz.prog 171 [.agg (fu a), .agg (fu b)] fun s => s = .bool r := by
 refine hs aa Tryz.f171 ?_
 unfold xv at hm
 refine z ?_
 refine brk (fun h1 => z ?_) (fun h1 => z ?_)
 rw [if_pos h1] at hm
 replace hm := aG hm
 obtain ⟨v2, e2, hm⟩ := ae hm
 refine ce (eqEdges_ok e2) (z ?_)
 cases hm
 exact fc
 rw [if_neg (nt h1)] at hm
 cases hm
 exact fc
def tL (a b : List Stt) : Option Bool := jm xv a b
theorem vr {a b : List Stt} {r : Bool} (hm : tL a b = some r) : Has Tryz.prog 124 [.agg [aC a], .agg [aC b]] fun s => s = .bool r := by
 refine hs aa Tryz.f124 ?_
 unfold tL at hm
 refine z ?_
 replace hm := aG hm
 obtain ⟨v1, e1, hm⟩ := ae hm
 refine ce (eqState_ok rfl rfl same1_ok e1) (z ?_)
 cases hm
 exact fc
def iE (a : List Stt) (s : Int) : Option Bool :=
 if s ≥ 0 then if s < a.length then (atI a s).bind fun x => some x.acc else some false else some false
theorem sD {a : List Stt} {s : Int} {r : Bool} (hm : iE a s = some r) : Has Tryz.prog 89 [.agg [aC a], .int .i64 s] fun v => v = .bool r := by
 refine hs aa Tryz.f89 ?_
 unfold iE at hm
 refine z ?_
 refine bkd (fun h1 => z ?_) (fun h1 => z ?_)
 rw [if_pos h1] at hm
 refine bkd (fun h2 => z ?_) (fun h2 => z ?_)
 rw [if_pos h2] at hm
 obtain ⟨j3, x3, en3, ex3, hm⟩ := aB hm
 refine bf en3 ex3 rfl (z ?_)
 cases hm
 exact fc
 rw [if_neg h2] at hm
 cases hm
 exact fc
 rw [if_neg h1] at hm
 cases hm
 exact fc
def oz (b : Int) : List Sv.Edge → Option Int
 | [] => some (-1)
 | e :: r => if e.lo ≤ b then if b ≤ e.hi then some e.to else oz b r else oz b r
def tI (a : List Stt) (s b : Int) : Option Int :=
 if s < 0 then some (-1) else if s ≥ a.length then some (-1) else (atI a s).bind fun x => (aN x.aL).bind fun _ => oz b x.aL
theorem cT {a : List Stt} {s b : Int} {r : Int} (hm : tI a s b = some r) : Has Tryz.prog 91 [.agg [aC a], .int .i64 s, .int .u8 b] fun v => v = .int .i64 r := by
 refine hs aa Tryz.f91 ?_
 unfold tI at hm
 refine z ?_
 refine bkd (fun h1 => z ?_) (fun h1 => z ?_)
 rw [if_pos h1] at hm
 cases hm
 exact fc
 rw [if_neg h1] at hm
 refine bkd (fun h2 => z ?_) (fun h2 => z ?_)
 rw [if_pos h2] at hm
 cases hm
 exact fc
 rw [if_neg h2] at hm
 obtain ⟨j3, x3, en3, ex3, hm⟩ := aB hm
 refine bf en3 ex3 rfl (z ?_)
 obtain ⟨hg4, hm⟩ := aj hm
 refine lg (α := Nat) aa (fun iw => (oz (b) (List.drop iw (x3.aL)) = some r, ⟨42, [(25, .int .i64 iw), (24, .int .i64 ↑x3.aL.length), (23, .lst false (List.map ck x3.aL)), (6, .int .i64 0), (2, .int .u8 b)]⟩, ⟨[(0, .cells [aC a])], 1, 0, [], []⟩, List.length (x3.aL) - iw)) ⟨(0), hm⟩ ?_
 intro i5 hq5
 dsimp only at hq5
 refine z ?_
 refine bkd (fun h6 => z ?_) (fun h6 => z ?_)
 obtain ⟨x6, ex6, ed6⟩ := au h6
 rw [ed6, oz] at hq5
 refine z ?_
 refine a6 ex6 rfl (z ?_)
 refine bkd (fun h7 => z ?_) (fun h7 => z ?_)
 rw [if_pos h7] at hq5
 refine bkd (fun h8 => z ?_) (fun h8 => z ?_)
 rw [if_pos h8] at hq5
 cases hq5
 exact fc
 rw [if_neg h8] at hq5
 exact bk ⟨i5 + 1, hq5⟩
 rw [if_neg h7] at hq5
 exact bk ⟨i5 + 1, hq5⟩
 rw [av h6, oz] at hq5
 cases hq5
 exact fc
abbrev je (n : Int) : Option Unit := grd (0 ≤ n ∧ n < 256)
def cutE : List Sv.Edge → List Bool → Option (List Bool)
 | [], a => some a
 | e :: r, a => (ph 257 a e.lo true).bind fun a => (je e.hi).bind fun _ => (ph 257 a (e.hi + 1) true).bind fun a => cutE r a
def cutL : List Stt → List Bool → Option (List Bool)
 | [], a => some a
 | s :: r, a => (aN s.aL).bind fun _ => (cutE s.aL a).bind fun a => cutL r a
def y5 (a : List Bool) : Nat → Int → List Int → Option (List Int)
 | 0, _, out => some out
 | n + 1, b, out => (atA 257 a b).bind fun x => if x then (push out b).bind fun out => y5 a n (b + 1) out else y5 a n (b + 1) out
def at0 : List Bool := true :: List.replicate 256 false
def cutM (l : List Stt) : Option (List Int) := (aN l).bind fun _ => (cutL l at0).bind fun a => y5 a 256 0 []
theorem cut_ok {l : List Stt} {r : List Int} (hm : cutM l = some r) : Has Tryz.prog 173 [aC l] fun s => s = .lst false (r.map bt) := by
 refine hs aa Tryz.f173 ?_
 unfold cutM at hm
 refine z ?_
 obtain ⟨hg1, hm⟩ := aj hm
 refine b5 (j := 0) rfl (by omega) (z ?_)
 obtain ⟨v2, hv2, hm⟩ := ae hm
 refine lg (α := Nat × List Bool) aa (fun (iw, s1) => (cutL (List.drop iw (l)) s1 = some v2, ⟨46, [(13, .int .i64 iw), (12, .int .i64 ↑l.length), (11, aC l), (3, .ptr 0 0), (2, .az)]⟩, ⟨[(0, .cells (s1.map .bool))], 1, 0, [], []⟩, List.length (l) - iw)) ⟨(0, _), hv2⟩ ?_
 rintro ⟨i2, s1_2⟩ hq2
 dsimp only at hq2
 refine z ?_
 refine bkd (fun h3 => z ?_) (fun h3 => z ?_)
 obtain ⟨x3, ex3, ed3⟩ := au h3
 rw [ed3, cutL] at hq2
 refine z ?_
 obtain ⟨hg4, hq2⟩ := aj hq2
 refine a6 ex3 rfl (z ?_)
 obtain ⟨v5, hv5, hq2⟩ := ae hq2
 refine lg (α := Nat × List Bool) aa (fun (iw, s1) => (cutE (List.drop iw (x3.aL)) s1 = some v5, ⟨46, [(20, .int .i64 iw), (19, .int .i64 ↑x3.aL.length), (18, .lst false (List.map ck x3.aL)), (13, .int .i64 ↑i2), (12, .int .i64 ↑l.length), (11, aC l), (3, .ptr 0 0), (2, .az)]⟩, ⟨[(1, .cells [.bool x3.acc, .lst false (List.map ck x3.aL)]), (0, .cells (s1.map .bool))], 2, 0, [], []⟩, List.length (x3.aL) - iw)) ⟨(0, _), hv5⟩ ?_
 rintro ⟨i5, s1_5⟩ hq5
 dsimp only at hq5
 refine z ?_
 refine bkd (fun h6 => z ?_) (fun h6 => z ?_)
 obtain ⟨x6, ex6, ed6⟩ := au h6
 rw [ed6, cutE] at hq5
 refine z ?_
 refine a6 ex6 rfl (z ?_)
 obtain ⟨j7, x7, en7, ej7, ex7, hq5⟩ := dF hq5
 refine b5 en7 ej7 (z ?_)
 rw [c9 ex7 (by (show _ + _ * 1 = _; omega))]
 refine z ?_
 obtain ⟨hg8, hq5⟩ := aj hq5
 refine z ?_
 obtain ⟨j10, x10, en10, ej10, ex10, hq5⟩ := dF hq5
 refine b5 en10 ej10 (z ?_)
 rw [c9 ex10 (by (show _ + _ * 1 = _; omega))]
 refine z ?_
 exact bk ⟨(i5 + 1, _), hq5⟩
 rw [av h6, cutE] at hq5
 cases hq5
 refine z ?_
 exact bk ⟨(i2 + 1, _), hq2⟩
 rw [av h3, cutL] at hq2
 cases hq2
 refine z ?_
 refine a8 rfl rfl ?_
 refine b0 8 1 rfl ?_
 refine lg (α := Nat × List Int × Nat) aa (fun (iw, s1, ts1) => (y5 (v2) (256 - iw) (iw : Int) s1 = some r, ⟨46, [(8, .own 1 ts1), (34, .int .i64 iw), (3, .ptr 0 0), (2, .az)]⟩, ⟨[(1, .row 1 (s1.map bt) ts1 false), (0, .cells (List.map .bool v2))], 2, 0, [], []⟩, (256) - iw)) ⟨(0, _, (0)), hm⟩ ?_
 rintro ⟨i11, s1_11, ts1_11⟩ hq11
 dsimp only at hq11
 refine z ?_
 refine bkd (fun h12 => z ?_) (fun h12 => z ?_)
 have h12' : (i11 : Int) < (((256) : Nat) : Int) := by (try simp only [List.length_map, List.length_replicate, List.length_set, List.length_append] at h12); omega
 rw [cB h12', y5] at hq11
 refine z ?_
 obtain ⟨j13, x13, en13, ej13, ex13, hq11⟩ := gB hq11
 refine b5 en13 ej13 (z ?_)
 rw [dO ex13 (by (show _ + _ * 1 = _; omega)) rfl]
 refine z ?_
 refine brk (fun h14 => z ?_) (fun h14 => z ?_)
 rw [if_pos h14] at hq11
 obtain ⟨hg15, hq11⟩ := aD hq11
 refine z ?_
 refine aH (↑i11) rfl (z ?_)
 exact bk ⟨(i11 + 1, _, (ts1_11 + 1)), hq11⟩
 rw [if_neg (nt h14)] at hq11
 exact bk ⟨(i11 + 1, _, (ts1_11)), hq11⟩
 have h12' : ¬ (i11 : Int) < (((256) : Nat) : Int) := by (try simp only [List.length_map, List.length_replicate, List.length_set, List.length_append] at h12); omega
 rw [cA h12', y5] at hq11
 refine z ?_
 cases hq11
 refine cP (z ?_)
 first | exact e2 | exact rfl
abbrev cX (n : Int) : Option Unit := grd (-9223372036854775808 ≤ n ∧ n < 9223372036854775808)
def eI (n : Int) : List UInt8 := Go.Lib.itoa n
def sigL (cls : List Int) : List Int → List UInt8 → Option (List UInt8)
 | [], b => some b
 | to :: r, b => (atI cls to).bind fun c => (cX c).bind fun _ => (grd (b.length + 1 + (eI c).length ≤ 1000000)).bind fun _ => sigL cls r (b ++ 44 :: eI c)
def sigM (cls : List Int) (next : List (List Int)) (s : Int) : Option (List UInt8) :=
 (atI cls s).bind fun c => (cX c).bind fun _ => (atI next s).bind fun row => (aN row).bind fun _ => sigL cls row (eI c)
def wc {α : Type} (l : List α) : Option (List α) := (aN l).bind fun _ => some l
theorem rZ : Has Tryz.prog 85 [.lst false []] fun s => s = .lst false [] := ti (fn := Tryz.f85) rfl rfl lD
theorem we {l r : List Sv.Edge} (hm : wc l = some r) : Has Tryz.prog 85 [.lst false (l.map ck)] fun s => s = .lst false (r.map ck) := by
 unfold wc at hm
 rcases l with _ | ⟨e, l⟩
 cases (aj hm).2
 exact rZ
 refine hs aa Tryz.f85 (z ?_)
 obtain ⟨hg1, hm⟩ := aj hm
 refine z ?_
 refine sA (z ?_)
 cases hm
 refine cP (z ?_)
 first | exact e2 | exact rfl
end Go.Proofs.YtmjddpeookapaaaGreatDoor
