/- For ConcreteHidden: functions of the program, walked beside Lean functions that say what they compute. -/
import Derived.Test.YtmjddpeookapaaaGreatDoorEn
import Derived.KernelRfl
import Derived.Test.YtmjddpeookapaaaGreatDoorWD
set_option linter.unusedVariables false
set_option linter.unusedSimpArgs false
set_option linter.unusedSectionVars false
namespace Go.Proofs.YtmjddpeookapaaaGreatDoor
open Sv
set_option maxRecDepth 100000
set_option maxHeartbeats 2000000
def idxB (v : Bool) : List Bool → Int → Option Int
 | [], _ => some (-1)
 | x :: r, i => if (v == x) then some i else idxB v r (i + 1)
def conB (l : List Bool) (v : Bool) : Option Bool := (aN l).bind fun _ => (idxB v l 0).bind fun k => some (decide (k ≥ 0))
theorem vW {l : List Bool} {v : Bool} {r : Bool} (hm : conB l v = some r) : Has Tryz.prog 21 [.lst false (l.map cD), .bool v] fun s => s = .bool r := by
 refine hs aa Tryz.f21 ?_
 unfold conB at hm
 refine z ?_
 refine ci aa Tryz.f34 (z ?_)
 obtain ⟨hg1, hm⟩ := aj hm
 obtain ⟨v2, hv2, hm⟩ := ae hm
 refine lg (α := Nat) aa (fun iw => (idxB (v) (List.drop iw (l)) (iw : Int) = some v2, ⟨19, [(8, .int .i64 iw), (7, .int .i64 ↑l.length), (6, .lst false (List.map cD l)), (4, .int .i64 0), (0, .lst false (List.map cD l)), (1, .bool v)]⟩, ⟨[], 0, 0, [], []⟩, List.length (l) - iw)) ⟨(0), hv2⟩ ?_
 intro i2 hq2
 dsimp only at hq2
 refine z ?_
 refine bkd (fun h3 => z ?_) (fun h3 => z ?_)
 obtain ⟨x3, ex3, ed3⟩ := au h3
 rw [ed3, idxB] at hq2
 refine z ?_
 refine a6 ex3 rfl (z ?_)
 refine brk (fun h4 => z ?_) (fun h4 => z ?_)
 rw [if_pos h4] at hq2
 cases hq2
 refine z ?_
 refine ei (z ?_)
 cases hm
 exact fc
 rw [if_neg (nt h4)] at hq2
 exact bk ⟨i2 + 1, hq2⟩
 rw [av h3, idxB] at hq2
 cases hq2
 refine z ?_
 refine ei (z ?_)
 cases hm
 exact fc
def caE (less : List Bool) (s : Int) : List Sv.Edge → List Bool → Option (List Bool)
 | [], o => some o
 | e :: r, o => (atI o s).bind fun x => if x then (iL o s true).bind fun o => caE less s r o else (atI less e.to).bind fun y => (iL o s y).bind fun o => caE less s r o
def caS (a : List Stt) (less : List Bool) : List Stt → Int → List Bool → Option (List Bool)
 | [], _, o => some o
 | _ :: r, i, o => (atI a i).bind fun x => (aN x.aL).bind fun _ => (caE less i x.aL o).bind fun o => caS a less r (i + 1) o
def canW (a : List Stt) (less : List Bool) : Option (List Bool) := (ltG a).bind fun _ => (aN a).bind fun _ => caS a less a 0 (List.replicate a.length false)
theorem can_ok {a : List Stt} {less r : List Bool} (hm : canW a less = some r) : Has Tryz.prog 205 [.agg [aC a], .lst false (less.map cD)] fun s => s = .lst false (r.map cD) := by
 refine hs aa Tryz.f205 ?_
 unfold canW at hm
 refine z ?_
 obtain ⟨hg1, hm⟩ := aj hm
 obtain ⟨hg2, hm⟩ := aj hm
 refine ⟨_, _, rfl, rfl, Nat.le_refl _, by omega, ?_⟩
 refine z ?_
 refine gU cD (a.length) (false) (by first | rfl | simp only [List.length_map]) rfl (z ?_)
 refine lg (α := Nat × List Bool × Nat) aa (fun (iw, s1, ts1) => (caS (a) (less) (List.drop iw (a)) (iw : Int) s1 = some r, ⟨47, [(16, .int .i64 iw), (15, .int .i64 ↑a.length), (5, .own 1 ts1), (4, .az), (2, .ptr 0 0), (1, .lst false (List.map cD less))]⟩, ⟨[(1, .row 1 (s1.map cD) ts1 false), (0, .cells [aC a])], 2, 0, [], []⟩, List.length (a) - iw)) ⟨(0, _, (0)), hm⟩ ?_
 rintro ⟨i3, s1_3, ts1_3⟩ hq3
 dsimp only at hq3
 refine z ?_
 refine bkd (fun h4 => z ?_) (fun h4 => z ?_)
 obtain ⟨x4, ex4, ed4⟩ := au h4
 rw [ed4, caS] at hq3
 refine z ?_
 obtain ⟨j5, x5, en5, ex5, hq3⟩ := aB hq3
 refine bf en5 ex5 rfl (z ?_)
 obtain ⟨hg6, hq3⟩ := aj hq3
 refine a8 rfl rfl ?_
 obtain ⟨v7, hv7, hq3⟩ := ae hq3
 refine lg (α := Nat × List Bool × Nat) aa (fun (iw, s1, ts1) => (caE (less) (↑i3) (List.drop iw (x5.aL)) s1 = some v7, ⟨47, [(26, .int .i64 iw), (25, .int .i64 ↑x5.aL.length), (24, .lst false (List.map ck x5.aL)), (6, .int .i64 ↑i3), (16, .int .i64 ↑i3), (15, .int .i64 ↑a.length), (5, .own 1 ts1), (4, .az), (2, .ptr 0 0), (1, .lst false (List.map cD less))]⟩, ⟨[(1, .row 1 (s1.map cD) ts1 false), (0, .cells [aC a])], 2, 0, [], []⟩, List.length (x5.aL) - iw)) ⟨(0, _, (ts1_3)), hv7⟩ ?_
 rintro ⟨i7, s1_7, ts1_7⟩ hq7
 dsimp only at hq7
 refine z ?_
 refine bkd (fun h8 => z ?_) (fun h8 => z ?_)
 obtain ⟨x8, ex8, ed8⟩ := au h8
 rw [ed8, caE] at hq7
 refine z ?_
 refine a6 ex8 rfl (z ?_)
 obtain ⟨j9, x9, en9, ex9, hq7⟩ := aB hq7
 refine aK en9 ex9 (z ?_)
 refine bw ex9 (z ?_)
 refine brk (fun h10 => z ?_) (fun h10 => z ?_)
 rw [if_pos h10] at hq7
 obtain ⟨j11, x11, en11, ex11, hq7⟩ := cF hq7
 refine aK en11 ex11 (z ?_)
 refine bT _ (true) ex11 rfl (z ?_)
 exact bk ⟨(i7 + 1, _, (ts1_7)), hq7⟩
 rw [if_neg (nt h10)] at hq7
 obtain ⟨j12, x12, en12, ex12, hq7⟩ := aB hq7
 refine bf en12 ex12 rfl (z ?_)
 obtain ⟨j13, x13, en13, ex13, hq7⟩ := cF hq7
 refine aK en13 ex13 (z ?_)
 refine bT _ (x12) ex13 rfl (z ?_)
 exact bk ⟨(i7 + 1, _, (ts1_7)), hq7⟩
 rw [av h8, caE] at hq7
 cases hq7
 refine z ?_
 exact bk ⟨(i3 + 1, _, (ts1_7)), hq3⟩
 rw [av h4, caS] at hq3
 cases hq3
 refine cP (z ?_)
 first | exact e2 | exact rfl
def someM (a : List Stt) (tb last : List (List Bool)) (n : Int) (k : Nat) (out : Wst) : Option (Wst × Bool) := (atI last 0).bind fun r => (atI r 0).bind fun b => if b then wvV a tb n k 0 [] out else some (out, true)
theorem some_ok {a0 a : List Stt} {tb last : List (List Bool)} {n : Int} {k : Nat} {out : Wst} {p : Wst × Bool} {t : Nat} (hm : someM a tb last n k out = some p) :
  sK Tryz.prog 206 (er a0 n out t false []) [.agg [aC a], .lst false (last.map fv), .int .i64 k, .func (.yield 5) [] [], .lst false (tb.map fv)] fun v os => v = .bool p.2 ∧ ∃ t', os = er a0 n p.1 t' (!p.2) [] := by
 refine jM aa (fn := Tryz.f206) rfl [(0, aS), (1, .cells [aC a0]), (2, .cells [.int .i64 n]), (3, .cells [.own 4 t]), (4, .row 1 (out.map jR) t false), (5, .loop (gH false))] 6 rfl rfl (bO (by omega) _ _ _ _ _ trivial) (by simp only [nb, nbL, b7, vA, Bool.and_self]; rfl) ?_
 unfold someM at hm
 refine z ?_
 obtain ⟨j1, x1, en1, ex1, hm⟩ := aB hm
 refine bf en1 ex1 rfl (z ?_)
 obtain ⟨j2, x2, en2, ex2, hm⟩ := aB hm
 refine bf en2 ex2 rfl (z ?_)
 refine bkm (fun h3 => z ?_) (fun h3 => z ?_)
 ·rw [if_neg (nt h3)] at hm
  cases hm
  exact cy (cU (er a0 n _ _ _ []) rfl ⟨rfl, rfl, rfl, rfl, rfl, rfl, trivial⟩ (bO (by omega) _ _ _ _ _ trivial) rfl (by omega) ⟨rfl, _, rfl⟩)
 ·rw [if_pos h3] at hm
  obtain ⟨v4, e4, hm⟩ := ae (aG hm)
  refine gz (wvV_ok (a0 := a0) (t := t) e4) (z ?_)
  refine ⟨⟨rfl, rfl, rfl, rfl, rfl, rfl, rfl, rfl, rfl, rfl, trivial⟩, ?_⟩
  rintro _ _ ⟨rfl, t4, rfl⟩
  refine z ?_
  cases hm
  exact cy (cU (er a0 n _ _ _ []) rfl ⟨rfl, rfl, rfl, rfl, rfl, rfl, trivial⟩ (bO (by omega) _ _ _ _ _ trivial) rfl (by omega) ⟨rfl, _, rfl⟩)
def wdF (a : List Stt) : List Stt → Int → List Bool → Option (List Bool)
 | [], _, l => some l
 | _ :: r, i, l => (atI a i).bind fun x => (push l x.acc).bind fun l => wdF a r (i + 1) l
def wdX (rec : Nat → List (List Bool) → Wst → Option (Wst × Bool)) (a : List Stt) (n : Int) (k : Nat) (tb : List (List Bool)) (out : Wst) : Option (Wst × Bool) :=
 (atI tb k).bind fun r => (conB r true).bind fun c => if c then (aN tb).bind fun _ => (cX ((k : Int) + 1)).bind fun _ => (grd (k + 1 ≤ tb.length)).bind fun _ => (someM a tb ((tb.take (k + 1)).drop k) n k out).bind fun p => if p.2 then rec (k + 1) tb p.1 else some (p.1, false) else some (out, true)
def wdL (a : List Stt) (n : Int) : Nat → Nat → List (List Bool) → Wst → Option (Wst × Bool)
 | 0, _, _, _ => none
 | f + 1, k, tb, out => (aN a).bind fun _ => if (a.length : Int) > 0 then
   if (k : Int) > 0 then (cX ((k : Int) - 1)).bind fun _ => (atI tb ((k : Int) - 1)).bind fun r => (canW a r).bind fun r' => (push tb r').bind fun tb => wdX (wdL a n f) a n k tb out else wdX (wdL a n f) a n k tb out
  else some (out, true)
def wdM (a : List Stt) (n : Int) (f : Nat) (out : Wst) : Option (Wst × Bool) := (aN a).bind fun _ => (wdF a a 0 []).bind fun r => wdL a n f 0 [r] out
theorem words1_ok {a0 a : List Stt} {n : Int} {f : Nat} {out : Wst} {p : Wst × Bool} {t : Nat} (hm : wdM a n f out = some p) :
  sK Tryz.prog 204 (er a0 n out t false []) [.func (.yield 5) [] [], .bA [aC a] 0] fun v os => v = .tup [] ∧ ∃ t', os = er a0 n p.1 t' (!p.2) [] := by
 refine jM aa (fn := Tryz.f204) rfl [(0, aS), (1, .cells [aC a0]), (2, .cells [.int .i64 n]), (3, .cells [.own 4 t]), (4, .row 1 (out.map jR) t false), (5, .loop (gH false))] 6 rfl rfl (bO (by omega) _ _ _ _ _ trivial) (by simp only [nb, nbL, b7, vA, Bool.and_self]; rfl) ?_
 unfold wdM at hm
 refine z ?_
 obtain ⟨hg1, hm⟩ := aj hm
 obtain ⟨v2, hv2, hm⟩ := ae hm
 refine b0 4 1 rfl ?_
 refine lg (α := Nat × List Bool × Nat) aa (fun (iw, s1, ts1) => (wdF (a) (List.drop iw (a)) (iw : Int) s1 = some v2, ⟨66, [(4, .own 6 ts1), (10, .int .i64 iw), (9, .int .i64 ↑a.length), (3, .az), (0, .func (Fn.yield 5) [] []), (1, .bA [aC a] 0)]⟩, ⟨[(6, .row 1 (s1.map cD) ts1 false), (0, aS), (1, .cells [aC a0]), (2, .cells [.int .i64 n]), (3, .cells [.own 4 t]), (4, .row 1 (List.map jR out) t false), (5, .loop (gH false))], 7, 0, [], []⟩, List.length (a) - iw)) ⟨(0, _, (0)), hv2⟩ ?_
 rintro ⟨i2, s1_2, ts1_2⟩ hq2
 dsimp only at hq2
 refine z ?_
 refine bkd (fun h3 => z ?_) (fun h3 => z ?_)
 ·obtain ⟨x3, ex3, ed3⟩ := au h3
  rw [ed3, wdF] at hq2
  refine z ?_
  obtain ⟨j4, x4, en4, ex4, hq2⟩ := aB hq2
  refine bf en4 ex4 rfl (z ?_)
  obtain ⟨hg5, hq2⟩ := aD hq2
  refine z ?_
  refine aH (x4.acc) rfl (z ?_)
  exact bk ⟨(i2 + 1, _, (ts1_2 + 1)), hq2⟩
 ·rw [av h3, wdF] at hq2
  cases hq2
  refine z ?_
  refine wB fv v2 rfl (z ?_)
  refine loop_rowT 8 rfl ?_
  refine lg (α := Nat × Nat × List (List Bool) × Wst × Nat × Nat) aa (fun (nw, s1, s2, s3, ts2, ts3) => (wdL (a) (n) nw s1 s2 s3 = some p, ⟨66, [(6, .int .i64 (s1 : Nat)), (3, .own 8 ts2), (0, .func (Fn.yield 5) [] []), (1, .bA [aC a] 0)]⟩, ⟨[(8, .row 1 (s2.map fv) ts2 true), (7, .row 1 [[.lst false (List.map cD v2)]] 0 false), (6, .row 1 (List.map cD v2) ts1_2 true), (0, aS), (1, .cells [aC a0]), (2, .cells [.int .i64 n]), (3, .cells [.own 4 ts3]), (4, .row 1 (s3.map jR) ts3 false), (5, .loop (gH false))], 9, 0, [], []⟩, nw)) ⟨(_, _, _, _, (0), (t)), hm⟩ ?_
  rintro ⟨n7, s1_7, s2_7, s3_7, ts2_7, ts3_7⟩ hq7
  dsimp only at hq7
  rcases n7 with _ | n7
  ·(unfold wdL at hq7; cases hq7)
  unfold wdL at hq7
  refine z ?_
  obtain ⟨hg8, hq7⟩ := aj hq7
  refine bkd (fun h9 => z ?_) (fun h9 => z ?_)
  ·rw [if_pos h9] at hq7
   refine bkd (fun h10 => z ?_) (fun h10 => z ?_)
   ·rw [if_pos h10] at hq7
    refine dg aa [0,0,0,0,8,28,60,126,254,511,1023] [] (z ?_)
    obtain ⟨hg11, hq7⟩ := aj hq7
    refine z ?_
    obtain ⟨j13, x13, en13, ex13, hq7⟩ := aB hq7
    refine aK en13 ex13 (z ?_)
    refine bw ex13 (z ?_)
    obtain ⟨v14, e14, hq7⟩ := ae hq7
    refine ce (can_ok e14) (z ?_)
    obtain ⟨hg15, hq7⟩ := aD hq7
    unfold wdX at hq7
    refine z ?_
    refine aH (v14) rfl (z ?_)
    refine dg aa [0,0,3,7,15,31,63,127,127,127,127,1151,127,4223,16255,127,127,127,262143,524287,1048575] [⟨18,0,0,[5,4,3,2,1,0,8]⟩,⟨14,0,0,[8]⟩] (z ?_)
    obtain ⟨j24, x24, en24, ex24, hq7⟩ := aB hq7
    refine aK en24 ex24 (z ?_)
    refine bw ex24 (z ?_)
    obtain ⟨v25, e25, hq7⟩ := ae hq7
    refine ce (vW e25) (z ?_)
    refine bkm (fun h26 => z ?_) (fun h26 => z ?_)
    ·rw [if_neg (nt h26)] at hq7
     cases hq7
     exact cy (cU (er a0 n _ _ false []) rfl ⟨rfl, rfl, rfl, rfl, rfl, rfl, trivial⟩ (bO (by omega) _ _ _ _ _ trivial) rfl (by omega) ⟨rfl, _, rfl⟩)
    ·rw [if_pos h26] at hq7
     obtain ⟨hg27, hq7⟩ := aj hq7
     obtain ⟨hg28, hq7⟩ := aj hq7
     obtain ⟨hg29, hq7⟩ := aj hq7
     refine z ?_
     refine ⟨s1_7, s1_7 + 1, rfl, by omega, by omega, by omega, by rw [List.length_map]; omega, as_cut ?_⟩
     refine z ?_
     obtain ⟨v31, e31, hq7⟩ := ae hq7
     refine gz (some_ok (a0 := a0) (t := ts3_7) e31) (z ?_)
     refine ⟨⟨rfl, rfl, rfl, rfl, rfl, rfl, trivial⟩, ?_⟩
     rintro _ _ ⟨rfl, t31, rfl⟩
     rcases v31 with ⟨o31, _ | _⟩ <;> dsimp only at hq7
     ·refine z ?_
      rw [if_neg Bool.false_ne_true] at hq7
      cases hq7
      exact cy (cU (er a0 n _ _ true []) rfl ⟨rfl, rfl, rfl, rfl, rfl, rfl, trivial⟩ (bO (by omega) _ _ _ _ _ trivial) rfl (by omega) ⟨rfl, _, rfl⟩)
     ·refine z ?_
      rw [if_pos rfl] at hq7
      exact bk ⟨(n7, _, _, _, (ts2_7 + 1), (t31)), hq7⟩
   ·rw [if_neg h10] at hq7
    unfold wdX at hq7
    refine z ?_
    refine dg aa [0,0,3,7,15,31,63,127,127,127,127,1151,127,4223,16255,127,127,127,262143,524287,1048575] [⟨18,0,0,[5,4,3,2,1,0,8]⟩,⟨14,0,0,[8]⟩] (z ?_)
    obtain ⟨j36, x36, en36, ex36, hq7⟩ := aB hq7
    refine aK en36 ex36 (z ?_)
    refine bw ex36 (z ?_)
    obtain ⟨v37, e37, hq7⟩ := ae hq7
    refine ce (vW e37) (z ?_)
    refine bkm (fun h38 => z ?_) (fun h38 => z ?_)
    ·rw [if_neg (nt h38)] at hq7
     cases hq7
     exact cy (cU (er a0 n _ _ false []) rfl ⟨rfl, rfl, rfl, rfl, rfl, rfl, trivial⟩ (bO (by omega) _ _ _ _ _ trivial) rfl (by omega) ⟨rfl, _, rfl⟩)
    ·rw [if_pos h38] at hq7
     obtain ⟨hx1, hq7⟩ := aj hq7
     obtain ⟨hx2, hq7⟩ := aj hq7
     obtain ⟨hx3, hq7⟩ := aj hq7
     refine ⟨s1_7, s1_7 + 1, rfl, by omega, by omega, by omega, by rw [List.length_map]; omega, as_cut ?_⟩
     refine z ?_
     obtain ⟨v39, e39, hq7⟩ := ae hq7
     refine gz (some_ok (a0 := a0) (t := ts3_7) e39) (z ?_)
     refine ⟨⟨rfl, rfl, rfl, rfl, rfl, rfl, trivial⟩, ?_⟩
     rintro _ _ ⟨rfl, t39, rfl⟩
     rcases v39 with ⟨o39, _ | _⟩ <;> dsimp only at hq7
     ·refine z ?_
      rw [if_neg Bool.false_ne_true] at hq7
      cases hq7
      exact cy (cU (er a0 n _ _ true []) rfl ⟨rfl, rfl, rfl, rfl, rfl, rfl, trivial⟩ (bO (by omega) _ _ _ _ _ trivial) rfl (by omega) ⟨rfl, _, rfl⟩)
     ·refine z ?_
      rw [if_pos rfl] at hq7
      exact bk ⟨(n7, _, _, _, (ts2_7), (t39)), hq7⟩
  ·rw [if_neg h9] at hq7
   cases hq7
   exact cy (cU (er a0 n _ _ false []) rfl ⟨rfl, rfl, rfl, rfl, rfl, rfl, trivial⟩ (bO (by omega) _ _ _ _ _ trivial) rfl (by omega) ⟨rfl, _, rfl⟩)
def uW : Option Unit := some ()
theorem words0_ok {a : List Stt} {r : Unit} (hm : uW = some r) : Has Tryz.prog 168 [.agg [aC a]] fun s => s = .func (.func 204) [] [.bA [aC a] 0] := by
 refine hs aa Tryz.f168 ?_
 unfold uW at hm
 refine z ?_
 cases hm
 refine cP (z ?_)
 first | exact e2 | exact rfl
def wFuel (a : List Stt) (n : Int) : Nat := (if 1000 < n then 1000 else n).toNat * (a.length + 1) + a.length + 2
def p6 (a : List Stt) (n : Int) : Option (List (List UInt8)) := if n < 1 then some [] else (fI a).bind fun a => uW.bind fun _ => (wdM a n (wFuel a n) []).bind fun p => some p.1
theorem words_ok {a : List Stt} {n : Int} {r : List (List UInt8)} (hm : p6 a n = some r) : aY Tryz.prog 121 [.agg [aC a], .int .i64 n] fun s => s = .lst false (r.map jR) := by
 refine ht aa Tryz.f121 ?_
 unfold p6 at hm
 refine z ?_
 refine bkd (fun h1 => z ?_) (fun h1 => z ?_)
 rw [if_pos h1] at hm
 cases hm
 refine aR (z ?_)
 exact mt
 rw [if_neg h1] at hm
 obtain ⟨v2, e2, hm⟩ := ae hm
 refine ct (fH e2) (z ?_)
 obtain ⟨v3, e3, hm⟩ := ae hm
 refine ce (words0_ok e3) (z ?_)
 refine oI 3 0 1 rfl rfl ?_
 obtain ⟨v4, e4, hm⟩ := ae hm
 refine oJ (t1 := [(5, .ptr 3 0), (3, .ptr 2 0)]) (words1_ok (a0 := a) (t := 0) e4) ⟨rfl, rfl, rfl, rfl, trivial⟩ rfl rfl rfl rfl ⟨rfl, rfl, rfl, rfl, rfl, rfl, trivial⟩ ?_
 rintro _ _ ⟨rfl, t4, rfl⟩
 refine z ?_
 rcases v4 with ⟨o4, _ | _⟩
 refine z ?_
 refine ⟨gH true, .exit 0, rfl, (fun h => by cases h), rfl, ?_⟩
 refine z ?_
 cases hm
 refine aR (z ?_)
 exact mt
 refine z ?_
 refine ⟨gH false, .normal, rfl, (fun h => by cases h), rfl, ?_⟩
 refine z ?_
 cases hm
 refine aR (z ?_)
 exact mt
/-! the algebra -/
def or1 (x y : Bool) : Option Bool := if x then some true else some y
theorem or1_ok {x y r : Bool} (hm : or1 x y = some r) : Has Tryz.prog 68 [.bool x, .bool y] fun s => s = .bool r := by
 refine hs aa Tryz.f68 ?_
 unfold or1 at hm
 refine z ?_
 refine brk (fun h1 => z ?_) (fun h1 => z ?_)
 rw [if_pos h1] at hm
 cases hm
 exact fc
 rw [if_neg (nt h1)] at hm
 cases hm
 exact fc
def and1 (x y : Bool) : Option Bool := if x then some y else some false
theorem and1_ok {x y r : Bool} (hm : and1 x y = some r) : Has Tryz.prog 195 [.bool x, .bool y] fun s => s = .bool r := by
 refine hs aa Tryz.f195 ?_
 unfold and1 at hm
 refine z ?_
 refine brk (fun h1 => z ?_) (fun h1 => z ?_)
 rw [if_pos h1] at hm
 cases hm
 exact fc
 rw [if_neg (nt h1)] at hm
 cases hm
 exact fc
def jJ (x y : Bool) : Option Bool := if x then some (!y) else some false
theorem minus1_ok {x y r : Bool} (hm : jJ x y = some r) : Has Tryz.prog 93 [.bool x, .bool y] fun s => s = .bool r := by
 refine hs aa Tryz.f93 ?_
 unfold jJ at hm
 refine z ?_
 refine brk (fun h1 => z ?_) (fun h1 => z ?_)
 rw [if_pos h1] at hm
 cases hm
 exact fc
 rw [if_neg (nt h1)] at hm
 cases hm
 exact fc
def orL (a b : List Stt) : Option (List Stt) := if (a.length : Int) = 0 then (fI b).bind fun b => gT b else if (b.length : Int) = 0 then (fI a).bind fun a => gT a else gp or1 a b
theorem vx {a b r : List Stt} (hm : orL a b = some r) : aY Tryz.prog 46 [.agg [aC a], .agg [aC b]] fun s => s = .agg [aC r] := by
 refine ht aa Tryz.f46 ?_
 unfold orL at hm
 refine z ?_
 refine bkd (fun h1 => z ?_) (fun h1 => z ?_)
 rw [if_pos h1] at hm
 obtain ⟨v2, e2, hm⟩ := ae hm
 refine ct (fH e2) (z ?_)
 replace hm := aG hm
 obtain ⟨v3, e3, hm⟩ := ae hm
 refine ce (od e3) (z ?_)
 cases hm
 exact mst
 rw [if_neg h1] at hm
 refine bkd (fun h4 => z ?_) (fun h4 => z ?_)
 rw [if_pos h4] at hm
 obtain ⟨v5, e5, hm⟩ := ae hm
 refine ct (fH e5) (z ?_)
 replace hm := aG hm
 obtain ⟨v6, e6, hm⟩ := ae hm
 refine ce (od e6) (z ?_)
 cases hm
 exact mst
 rw [if_neg h4] at hm
 replace hm := aG hm
 obtain ⟨v7, e7, hm⟩ := ae hm
 refine ct (lK rfl rfl or1_ok e7) (z ?_)
 cases hm
 exact mst
def andL (a b : List Stt) : Option (List Stt) := if (a.length : Int) = 0 then some [] else if (b.length : Int) = 0 then some [] else gp and1 a b
theorem andL_ok {a b r : List Stt} (hm : andL a b = some r) : aY Tryz.prog 149 [.agg [aC a], .agg [aC b]] fun s => s = .agg [aC r] := by
 refine ht aa Tryz.f149 ?_
 unfold andL at hm
 refine z ?_
 refine bkd (fun h1 => z ?_) (fun h1 => z ?_)
 rw [if_pos h1] at hm
 cases hm
 refine aR (z ?_)
 exact mt
 rw [if_neg h1] at hm
 refine bkd (fun h2 => z ?_) (fun h2 => z ?_)
 rw [if_pos h2] at hm
 cases hm
 refine aR (z ?_)
 exact mt
 rw [if_neg h2] at hm
 replace hm := aG hm
 obtain ⟨v3, e3, hm⟩ := ae hm
 refine ct (lK rfl rfl and1_ok e3) (z ?_)
 cases hm
 exact mst
def jI (a b : List Stt) : Option (List Stt) := if (a.length : Int) = 0 then some [] else if (b.length : Int) = 0 then (fI a).bind fun a => gT a else gp jJ a b
theorem kL {a b r : List Stt} (hm : jI a b = some r) : aY Tryz.prog 69 [.agg [aC a], .agg [aC b]] fun s => s = .agg [aC r] := by
 refine ht aa Tryz.f69 ?_
 unfold jI at hm
 refine z ?_
 refine bkd (fun h1 => z ?_) (fun h1 => z ?_)
 rw [if_pos h1] at hm
 cases hm
 refine aR (z ?_)
 exact mt
 rw [if_neg h1] at hm
 refine bkd (fun h2 => z ?_) (fun h2 => z ?_)
 rw [if_pos h2] at hm
 obtain ⟨v3, e3, hm⟩ := ae hm
 refine ct (fH e3) (z ?_)
 replace hm := aG hm
 obtain ⟨v4, e4, hm⟩ := ae hm
 refine ce (od e4) (z ?_)
 cases hm
 exact mst
 rw [if_neg h2] at hm
 replace hm := aG hm
 obtain ⟨v5, e5, hm⟩ := ae hm
 refine ct (lK rfl rfl minus1_ok e5) (z ?_)
 cases hm
 exact mst
def allL : List Stt := [⟨true, [⟨0, 255, 0⟩]⟩]
def allA : Option (List Stt) := some allL
theorem allA_ok {r : List Stt} (hm : allA = some r) : Has Tryz.prog 70 [] fun s => s = .agg [aC r] := by
 refine hs aa Tryz.f70 ?_
 unfold allA at hm
 refine z ?_
 cases hm
 refine cP (z ?_)
 first | exact rfl | exact ⟨rfl, rfl⟩
def lV (a : List Stt) : Option (List UInt8 × Bool) := (p6 a 1).bind fun l => (aN l).bind fun _ => if (l.length : Int) = 0 then some ([], false) else (atI l 0).bind fun x => some (x, true)
theorem nV {a : List Stt} {r : List UInt8 × Bool} (hm : lV a = some r) : aY Tryz.prog 80 [.agg [aC a]] fun s => s = .tup [.str r.1, .bool r.2] := by
 refine ht aa Tryz.f80 ?_
 unfold lV at hm
 refine z ?_
 obtain ⟨v1, e1, hm⟩ := ae hm
 refine ct (words_ok e1) (z ?_)
 obtain ⟨hg2, hm⟩ := aj hm
 refine bkd (fun h3 => z ?_) (fun h3 => z ?_)
 rw [if_pos h3] at hm
 cases hm
 exact mst
 rw [if_neg h3] at hm
 obtain ⟨j4, x4, en4, ex4, hm⟩ := aB hm
 refine bf en4 ex4 rfl (z ?_)
 cases hm
 exact mst
def nanI (x : Int) : Option Bool := some false
theorem nanI_ok {x : Int} {r : Bool} (hm : nanI x = some r) : Has Tryz.prog 228 [.int .i64 x] fun s => s = .bool r := by
 refine hs aa Tryz.f228 ?_
 unfold nanI at hm
 cases hm
 refine z ?_
 exact kS rfl (by show SVal.bool _ = _; simp)
def rW (x y : Int) : Option Int := (nanI x).bind fun a => (nanI y).bind fun b => if a then if b then some 0 else some (-1) else if b then some 1 else if x < y then some (-1) else if x > y then some 1 else some 0
theorem wa {x y r : Int} (hm : rW x y = some r) : Has Tryz.prog 189 [.int .i64 x, .int .i64 y] fun s => s = .int .i64 r := by
 refine hs aa Tryz.f189 ?_
 unfold rW at hm
 refine z ?_
 obtain ⟨v1, e1, hm⟩ := ae hm
 refine ce (nanI_ok e1) (z ?_)
 obtain ⟨v2, e2, hm⟩ := ae hm
 refine ce (nanI_ok e2) (z ?_)
 refine brk (fun h3 => z ?_) (fun h3 => z ?_)
 rw [if_pos h3] at hm
 refine brk (fun h4 => z ?_) (fun h4 => z ?_)
 rw [if_pos h4] at hm
 cases hm
 exact fc
 rw [if_neg (nt h4)] at hm
 cases hm
 exact fc
 rw [if_neg (nt h3)] at hm
 refine brk (fun h5 => z ?_) (fun h5 => z ?_)
 rw [if_pos h5] at hm
 cases hm
 exact fc
 rw [if_neg (nt h5)] at hm
 refine bkd (fun h6 => z ?_) (fun h6 => z ?_)
 rw [if_pos h6] at hm
 cases hm
 exact fc
 rw [if_neg h6] at hm
 refine bkd (fun h7 => z ?_) (fun h7 => z ?_)
 rw [if_pos h7] at hm
 cases hm
 exact fc
 rw [if_neg h7] at hm
 cases hm
 exact fc
def nanJ (x : Int) : Option Bool := some false
theorem nanJ_ok {x : Int} {r : Bool} (hm : nanJ x = some r) : Has Tryz.prog 203 [.int .i64 x] fun s => s = .bool r := by
 refine hs aa Tryz.f203 ?_
 unfold nanJ at hm
 cases hm
 refine z ?_
 exact kS rfl (by show SVal.bool _ = _; simp)
def cmpJ (x y : Int) : Option Int := (nanJ x).bind fun a => (nanJ y).bind fun b => if a then if b then some 0 else some (-1) else if b then some 1 else if x < y then some (-1) else if x > y then some 1 else some 0
theorem cmpJ_ok {x y r : Int} (hm : cmpJ x y = some r) : Has Tryz.prog 167 [.int .i64 x, .int .i64 y] fun s => s = .int .i64 r := by
 refine hs aa Tryz.f167 ?_
 unfold cmpJ at hm
 refine z ?_
 obtain ⟨v1, e1, hm⟩ := ae hm
 refine ce (nanJ_ok e1) (z ?_)
 obtain ⟨v2, e2, hm⟩ := ae hm
 refine ce (nanJ_ok e2) (z ?_)
 refine brk (fun h3 => z ?_) (fun h3 => z ?_)
 rw [if_pos h3] at hm
 refine brk (fun h4 => z ?_) (fun h4 => z ?_)
 rw [if_pos h4] at hm
 cases hm
 exact fc
 rw [if_neg (nt h4)] at hm
 cases hm
 exact fc
 rw [if_neg (nt h3)] at hm
 refine brk (fun h5 => z ?_) (fun h5 => z ?_)
 rw [if_pos h5] at hm
 cases hm
 exact fc
 rw [if_neg (nt h5)] at hm
 refine bkd (fun h6 => z ?_) (fun h6 => z ?_)
 rw [if_pos h6] at hm
 cases hm
 exact fc
 rw [if_neg h6] at hm
 refine bkd (fun h7 => z ?_) (fun h7 => z ?_)
 rw [if_pos h7] at hm
 cases hm
 exact fc
 rw [if_neg h7] at hm
 cases hm
 exact fc
def nanS (x : List UInt8) : Option Bool := some false
theorem nanS_ok {x : List UInt8} {r : Bool} (hm : nanS x = some r) : Has Tryz.prog 229 [.str x] fun s => s = .bool r := by
 refine hs aa Tryz.f229 ?_
 unfold nanS at hm
 cases hm
 refine z ?_
 exact kS rfl (by show SVal.bool _ = _; simp)
end Go.Proofs.YtmjddpeookapaaaGreatDoor
