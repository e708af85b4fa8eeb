/- For ConcreteHidden: functions of the program, walked beside Lean functions that say what they compute. -/
import Derived.Test.YtmjddpeookapaaaGreatDoorEn
import Derived.KernelRfl
import Derived.Test.YtmjddpeookapaaaGreatDoorSG
set_option linter.unusedVariables false
set_option linter.unusedSimpArgs false
set_option linter.unusedSectionVars false
namespace Go.Proofs.YtmjddpeookapaaaGreatDoor
open Sv
set_option maxRecDepth 100000
abbrev ltG {α : Type} (l : List α) : Option Unit := grd (l.length < 1000000000)
/-! complete -/
def vu (c i : Int) : List Sv.Edge → List Int → Option (List Int)
 | [], row => some row
 | e :: r, row => (je e.lo).bind fun _ => if e.lo ≤ c then (je e.hi).bind fun _ => if c ≤ e.hi then (iL row i e.to).bind fun row => vu c i r row else vu c i r row else vu c i r row
def rowC (aL : List Sv.Edge) (sink : Int) : List Int → Int → List Int → Option (List Int)
 | [], _, row => some row
 | c :: r, i, row => (iL row i sink).bind fun row => (aN aL).bind fun _ => (vu c i aL row).bind fun row => rowC aL sink r (i + 1) row
def rN (bJ : List Int) (sink : Int) : List Stt → List (List Int) → List Bool → Option (List (List Int) × List Bool)
 | [], next, acc => some (next, acc)
 | s :: r, next, acc => (ltG bJ).bind fun _ => (aN bJ).bind fun _ => (rowC s.aL sink bJ 0 (List.replicate bJ.length 0)).bind fun row =>
  (push next row).bind fun next => (push acc s.acc).bind fun acc => rN bJ sink r next acc
def rn (sink : Int) : Nat → Int → List Int → Option (List Int)
 | 0, _, l => some l
 | n + 1, i, l => (iL l i sink).bind fun l => rn sink n (i + 1) l
def compM (l : List Stt) : Option (List Int × List (List Int) × List Bool) :=
 (cutM l).bind fun bJ => (aN l).bind fun _ => (rN bJ l.length l [] []).bind fun p =>
 (ltG bJ).bind fun _ => (rn l.length bJ.length 0 (List.replicate bJ.length 0)).bind fun last =>
 (push p.1 last).bind fun next => (push p.2 false).bind fun acc => some (bJ, next, acc)
/-! refine -/
def zi : List Bool → Int → List Int → Option (List Int)
 | [], _, c => some c
 | ok :: r, s, c => if ok then (iL c s 1).bind fun c => zi r (s + 1) c else zi r (s + 1) c
def xK (cls : List Int) (next : List (List Int)) : List (List Int) → Int → List (List UInt8 × Int) → List Int → Option (List (List UInt8 × Int) × List Int)
 | [], _, seen, nx => some (seen, nx)
 | row :: r, s, seen, nx => (sigM cls next s).bind fun x => match cn x seen with
  | some k => (iL nx s k).bind fun nx => xK cls next r (s + 1) seen nx
  | none => (iL nx s seen.length).bind fun nx => xK cls next r (s + 1) (seen ++ [(x, (seen.length : Int))]) nx
def refF (next : List (List Int)) : Nat → List Int → Int → Option (List Int)
 | 0, _, _ => none
 | n + 1, cls, many => (ltG next).bind fun _ => (aN next).bind fun _ => (xK cls next next 0 [] (List.replicate next.length 0)).bind fun p =>
  if (p.1.length : Int) = many then some p.2 else refF next n p.2 p.1.length
def refM (next : List (List Int)) (acc : List Bool) : Option (List Int) :=
 (ltG next).bind fun _ => (aN acc).bind fun _ => (zi acc 0 (List.replicate next.length 0)).bind fun c => refF next (next.length + 2) c 0
/-! live -/
def gN (cls : List Int) (out : List Bool) : List Int → Bool → Option Bool
 | [], ok => some ok
 | to :: r, ok => if ok then gN cls out r true else (atI cls to).bind fun c => (atI out c).bind fun b => gN cls out r b
def ly (acc : List Bool) (cls : List Int) : List (List Int) → Int → List Bool → Bool → Option (List Bool × Bool)
 | [], _, out, ag => some (out, ag)
 | row :: r, s, out, ag => (atI acc s).bind fun ok => (aN row).bind fun _ => (gN cls out row ok).bind fun ok =>
  if ok then (atI cls s).bind fun c => (atI out c).bind fun b => if b then ly acc cls r (s + 1) out ag else (atI cls s).bind fun c => (iL out c true).bind fun out => ly acc cls r (s + 1) out true
  else ly acc cls r (s + 1) out ag
def ri (acc : List Bool) (cls : List Int) (next : List (List Int)) : Nat → List Bool → Bool → Option (List Bool)
 | 0, _, _ => none
 | n + 1, out, again => if again then (aN next).bind fun _ => (ly acc cls next 0 out false).bind fun p => ri acc cls next n p.1 p.2 else some out
def liveM (next : List (List Int)) (acc : List Bool) (cls : List Int) : Option (List Bool) :=
 (ltG next).bind fun _ => ri acc cls next (next.length + 2) (List.replicate next.length false) true
/-! canonical -/
def pq (bJ : List Int) (i : Int) : Option Int :=
 if i + 1 < bJ.length then (atI bJ (i + 1)).bind fun x => (je (x - 1)).bind fun _ => some (x - 1) else some 255
def sg (bJ : List Int) (i c : Int) (m : List (Int × Int)) (e : List Sv.Edge) : Option (List Sv.Edge) :=
 (atI bJ i).bind fun lo => (je lo).bind fun _ => (pq bJ i).bind fun h => match cn c m with
  | none => none
  | some v => push e ⟨lo, h, v⟩
def canX (bJ : List Int) (i c : Int) (m : List (Int × Int)) (e : List Sv.Edge) : Option (List Sv.Edge) :=
 if (e.length : Int) > 0 then (atI e (e.length - 1)).bind fun p => match cn c m with
  | none => none
  | some v => if p.to = v then (atI e (e.length - 1)).bind fun p => (je p.hi).bind fun _ => (atI bJ i).bind fun ct =>
    if p.hi + 1 = ct then (pq bJ i).bind fun h => nP e (e.length - 1) fun p => ⟨p.lo, h, p.to⟩ else sg bJ i c m e
   else sg bJ i c m e
 else sg bJ i c m e
def wq (bJ cls : List Int) (live : List Bool) : List Int → Int → List Int → List (Int × Int) → List Sv.Edge → Option (List Int × List (Int × Int) × List Sv.Edge)
 | [], _, o, m, e => some (o, m, e)
 | to :: r, i, o, m, e => (atI cls to).bind fun c => (atI live c).bind fun lv => if lv then
   match cn c m with
   | some _ => (aN e).bind fun _ => (canX bJ i c m e).bind fun e => wq bJ cls live r (i + 1) o m e
   | none => (push o to).bind fun o' => (aN e).bind fun _ => (canX bJ i c (m ++ [(c, (o.length : Int))]) e).bind fun e => wq bJ cls live r (i + 1) o' (m ++ [(c, (o.length : Int))]) e
  else wq bJ cls live r (i + 1) o m e
def canF (bJ : List Int) (next : List (List Int)) (acc : List Bool) (cls : List Int) (live : List Bool) : Nat → Int → List Int → List (Int × Int) → List Stt → Option (List Stt)
 | 0, _, _, _, _ => none
 | n + 1, k, o, m, out => (aN o).bind fun _ => if k < o.length then (atI o k).bind fun s => (atI acc s).bind fun a => (atI o k).bind fun s => (atI next s).bind fun row => (aN row).bind fun _ =>
   (wq bJ cls live row 0 o m []).bind fun p => (push out ⟨a, p.2.2⟩).bind fun out => canF bJ next acc cls live n (k + 1) p.1 p.2.1 out
  else some out
def canM (bJ : List Int) (next : List (List Int)) (acc : List Bool) (cls : List Int) : Option (List Stt) :=
 (liveM next acc cls).bind fun live => (atI cls 0).bind fun c => (atI live c).bind fun b => if b then
  (atI cls 0).bind fun c => canF bJ next acc cls live (next.length + 1) 0 [0] [(c, 0)] []
 else some []
def minM (l : List Stt) : Option (List Stt × Int) := (wfM l).bind fun ok => if ok then
  if (l.length : Int) = 0 then some ([], 0) else (compM l).bind fun t => (refM t.2.1 t.2.2).bind fun cls => (canM t.1 t.2.1 t.2.2 cls).bind fun r => some (r, 0)
 else some ([], 11)
set_option maxHeartbeats 4000000
theorem q6 {l : List Stt} {r : List Stt × Int} (hm : minM l = some r) : aY Tryz.prog 92 [aC l] fun s => s = .tup [.agg [aC r.1], .int .i64 r.2] := by
 refine ht aa Tryz.f92 ?_
 unfold minM at hm
 refine z ?_
 obtain ⟨v1, e1, hm⟩ := ae hm
 refine ce (lp e1) (z ?_)
 refine bkm (fun h2 => z ?_) (fun h2 => z ?_)
 rw [if_neg (nt h2)] at hm
 cases hm
 refine aR (z ?_)
 exact mt
 rw [if_pos h2] at hm
 refine bkd (fun h3 => z ?_) (fun h3 => z ?_)
 rw [if_pos h3] at hm
 cases hm
 refine aR (z ?_)
 exact mt
 rw [if_neg h3] at hm
 unfold compM at hm
 refine ci aa Tryz.f126 (z ?_)
 rw [Option.bind_assoc] at hm
 obtain ⟨v4, e4, hm⟩ := ae hm
 refine ce (cut_ok e4) ?_
 rw [Option.bind_assoc] at hm
 refine z ?_
 obtain ⟨hg5, hm⟩ := aj hm
 rw [Option.bind_assoc] at hm
 obtain ⟨v6, hv6, hm⟩ := ae hm
 refine bj 2 1 1 rfl rfl ?_
 refine bj 2 2 1 rfl rfl ?_
 refine lg (α := Nat × List (List Int) × List Bool × Nat × Nat) aa (fun (iw, s1, s2, ts1, ts2) => (rN (v4) (↑l.length) (List.drop iw (l)) s1 s2 = some v6, ⟨130, [(22, .int .i64 iw), (21, .int .i64 ↑l.length), (20, aC l), (4, .int .i64 ↑l.length), (18, aC l), (3, .ptr 2 0), (17, .ptr 2 0), (15, .lst false (List.map bt v4)), (14, aC l), (2, .nilPtr), (0, aC l)]⟩, ⟨[(4, .row 1 (s2.map cD) ts2 false), (3, .row 1 (s1.map eN) ts1 false), (2, .cells [.lst false (List.map bt v4), .own 3 ts1, .own 4 ts2, .az]), (1, .cells [.az]), (0, aS)], 5, 0, [], []⟩, List.length (l) - iw)) ⟨(0, _, _, (0), (0)), hv6⟩ ?_
 rintro ⟨i6, s1_6, s2_6, ts1_6, ts2_6⟩ hq6
 dsimp only at hq6
 refine z ?_
 refine bkd (fun h7 => z ?_) (fun h7 => z ?_)
 obtain ⟨x7, ex7, ed7⟩ := au h7
 rw [ed7, rN] at hq6
 refine z ?_
 obtain ⟨hg8, hq6⟩ := aj hq6
 obtain ⟨hg9, hq6⟩ := aj hq6
 refine a6 ex7 rfl (z ?_)
 refine ⟨_, _, rfl, rfl, Nat.le_refl _, by omega, ?_⟩
 refine z ?_
 refine gU bt (v4.length) (0) (by first | rfl | simp only [List.length_map]) rfl (z ?_)
 obtain ⟨v10, hv10, hq6⟩ := ae hq6
 refine lg (α := Nat × List Int × Nat) aa (fun (iw, s1, ts1) => (rowC (x7.aL) (↑l.length) (List.drop iw (v4)) (iw : Int) s1 = some v10, ⟨130, [(37, .int .i64 iw), (36, .int .i64 ↑v4.length), (35, .lst false (List.map bt v4)), (7, .own 6 ts1), (6, .ptr 5 0), (22, .int .i64 ↑i6), (21, .int .i64 ↑l.length), (20, aC l), (4, .int .i64 ↑l.length), (18, aC l), (3, .ptr 2 0), (17, .ptr 2 0), (15, .lst false (List.map bt v4)), (14, aC l), (2, .nilPtr), (0, aC l)]⟩, ⟨[(6, .row 1 (s1.map bt) ts1 false), (5, .cells [.bool x7.acc, .lst false (List.map ck x7.aL)]), (4, .row 1 (List.map cD s2_6) ts2_6 false), (3, .row 1 (List.map eN s1_6) ts1_6 false), (2, .cells [.lst false (List.map bt v4), .own 3 ts1_6, .own 4 ts2_6, .az]), (1, .cells [.az]), (0, aS)], 7, 0, [], []⟩, List.length (v4) - iw)) ⟨(0, _, (0)), hv10⟩ ?_
 rintro ⟨i10, s1_10, ts1_10⟩ hq10
 dsimp only at hq10
 refine z ?_
 refine bkd (fun h11 => z ?_) (fun h11 => z ?_)
 obtain ⟨x11, ex11, ed11⟩ := au h11
 rw [ed11, rowC] at hq10
 refine z ?_
 refine a6 ex11 rfl (z ?_)
 obtain ⟨j12, x12, en12, ex12, hq10⟩ := cF hq10
 refine aK en12 ex12 (z ?_)
 refine bT _ (↑l.length) ex12 rfl (z ?_)
 obtain ⟨hg13, hq10⟩ := aj hq10
 obtain ⟨v14, hv14, hq10⟩ := ae hq10
 refine lg (α := Nat × List Int × Nat) aa (fun (iw, s1, ts1) => (vu (x11) (↑i10) (List.drop iw (x7.aL)) s1 = some v14, ⟨130, [(49, .int .i64 iw), (48, .int .i64 ↑x7.aL.length), (47, .lst false (List.map ck x7.aL)), (9, .int .i64 x11), (8, .int .i64 ↑i10), (37, .int .i64 ↑i10), (36, .int .i64 ↑v4.length), (35, .lst false (List.map bt v4)), (7, .own 6 ts1), (6, .ptr 5 0), (22, .int .i64 ↑i6), (21, .int .i64 ↑l.length), (20, aC l), (4, .int .i64 ↑l.length), (18, aC l), (3, .ptr 2 0), (17, .ptr 2 0), (15, .lst false (List.map bt v4)), (14, aC l), (2, .nilPtr), (0, aC l)]⟩, ⟨[(6, .row 1 (s1.map bt) ts1 false), (5, .cells [.bool x7.acc, .lst false (List.map ck x7.aL)]), (4, .row 1 (List.map cD s2_6) ts2_6 false), (3, .row 1 (List.map eN s1_6) ts1_6 false), (2, .cells [.lst false (List.map bt v4), .own 3 ts1_6, .own 4 ts2_6, .az]), (1, .cells [.az]), (0, aS)], 7, 0, [], []⟩, List.length (x7.aL) - iw)) ⟨(0, _, (ts1_10)), hv14⟩ ?_
 rintro ⟨i14, s1_14, ts1_14⟩ hq14
 dsimp only at hq14
 refine z ?_
 refine bkd (fun h15 => z ?_) (fun h15 => z ?_)
 obtain ⟨x15, ex15, ed15⟩ := au h15
 rw [ed15, vu] at hq14
 refine z ?_
 obtain ⟨hg16, hq14⟩ := aj hq14
 refine a6 ex15 rfl (z ?_)
 refine bkd (fun h17 => z ?_) (fun h17 => z ?_)
 rw [if_pos h17] at hq14
 obtain ⟨hg18, hq14⟩ := aj hq14
 refine z ?_
 refine bkd (fun h19 => z ?_) (fun h19 => z ?_)
 rw [if_pos h19] at hq14
 obtain ⟨j20, x20, en20, ex20, hq14⟩ := cF hq14
 refine aK en20 ex20 (z ?_)
 refine bT _ (x15.to) ex20 rfl (z ?_)
 exact bk ⟨(i14 + 1, _, (ts1_14)), hq14⟩
 rw [if_neg h19] at hq14
 exact bk ⟨(i14 + 1, _, (ts1_14)), hq14⟩
 rw [if_neg h17] at hq14
 exact bk ⟨(i14 + 1, _, (ts1_14)), hq14⟩
 rw [av h15, vu] at hq14
 cases hq14
 refine z ?_
 exact bk ⟨(i10 + 1, _, (ts1_14)), hq10⟩
 rw [av h11, rowC] at hq10
 cases hq10
 refine z ?_
 obtain ⟨hg21, hq6⟩ := aD hq6
 refine z ?_
 refine aH (v10) rfl (z ?_)
 refine dg aa [0,0,2,6,14,0,32,96,254,511,1023,2047] [⟨11,0,0,[2]⟩,⟨8,0,0,[4]⟩] (z ?_)
 obtain ⟨hg23, hq6⟩ := aD hq6
 refine z ?_
 refine aH (x7.acc) rfl (z ?_)
 exact bk ⟨(i6 + 1, _, _, (ts1_6 + 1), (ts2_6 + 1)), hq6⟩
 rw [av h7, rN] at hq6
 cases hq6
 dsimp only at hm
 rw [Option.bind_assoc] at hm
 refine z ?_
 obtain ⟨hg24, hm⟩ := aj hm
 rw [Option.bind_assoc] at hm
 refine ⟨_, _, rfl, rfl, Nat.le_refl _, by omega, ?_⟩
 refine z ?_
 refine gU bt (v4.length) (0) (by first | rfl | simp only [List.length_map]) rfl (z ?_)
 obtain ⟨v25, hv25, hm⟩ := ae hm
 refine lg (α := Nat × List Int × Nat) aa (fun (iw, s1, ts1) => (rn (↑l.length) (v4.length - iw) (iw : Int) s1 = some v25, ⟨130, [(102, .int .i64 iw), (101, .int .i64 ↑v4.length), (12, .own 5 ts1), (4, .int .i64 ↑l.length), (18, aC l), (3, .ptr 2 0), (17, .ptr 2 0), (15, .lst false (List.map bt v4)), (14, aC l), (2, .nilPtr), (0, aC l)]⟩, ⟨[(5, .row 1 (s1.map bt) ts1 false), (4, .row 1 (List.map cD s2_6) ts2_6 false), (3, .row 1 (List.map eN s1_6) ts1_6 false), (2, .cells [.lst false (List.map bt v4), .own 3 ts1_6, .own 4 ts2_6, .az]), (1, .cells [.az]), (0, aS)], 6, 0, [], []⟩, (v4.length) - iw)) ⟨(0, _, (0)), hv25⟩ ?_
 rintro ⟨i25, s1_25, ts1_25⟩ hq25
 dsimp only at hq25
 refine z ?_
 refine bkd (fun h26 => z ?_) (fun h26 => z ?_)
 have h26' : (i25 : Int) < (((v4.length) : Nat) : Int) := by (try simp only [List.length_map, List.length_replicate, List.length_set, List.length_append] at h26); omega
 rw [cB h26', rn] at hq25
 refine z ?_
 obtain ⟨j27, x27, en27, ex27, hq25⟩ := cF hq25
 refine aK en27 ex27 (z ?_)
 refine bT _ (↑l.length) ex27 rfl (z ?_)
 exact bk ⟨(i25 + 1, _, (ts1_25)), hq25⟩
 have h26' : ¬ (i25 : Int) < (((v4.length) : Nat) : Int) := by (try simp only [List.length_map, List.length_replicate, List.length_set, List.length_append] at h26); omega
 rw [cA h26', rn] at hq25
 cases hq25
 rw [Option.bind_assoc] at hm
 refine z ?_
 obtain ⟨hg28, hm⟩ := aD hm
 rw [Option.bind_assoc] at hm
 refine z ?_
 refine aH (v25) rfl (z ?_)
 obtain ⟨hg29, hm⟩ := aD hm
 dsimp only [Option.bind_some] at hm
 refine z ?_
 refine aH (false) rfl (z ?_)
 refine ei (z ?_)
 unfold refM at hm
 refine ci aa Tryz.f127 (z ?_)
 rw [Option.bind_assoc] at hm
 obtain ⟨hg30, hm⟩ := aj hm
 rw [Option.bind_assoc] at hm
 obtain ⟨hg31, hm⟩ := aj hm
 rw [Option.bind_assoc] at hm
 refine ⟨_, _, rfl, rfl, Nat.le_refl _, by omega, ?_⟩
 refine z ?_
 refine gU bt ((s1_6 ++ [v25]).length) (0) (by first | rfl | simp only [List.length_map]) rfl (z ?_)
 obtain ⟨v32, hv32, hm⟩ := ae hm
 refine lg (α := Nat × List Int × Nat) aa (fun (iw, s1, ts1) => (zi (List.drop iw (s2_6 ++ [false])) (iw : Int) s1 = some v32, ⟨87, [(26, .int .i64 iw), (25, .int .i64 ↑(s2_6 ++ [false]).length), (24, .own 4 (ts2_6 + 1)), (18, .own 8 ts1), (17, .int .i64 ↑(s1_6 ++ [v25]).length), (15, .ptr 2 1), (14, .ptr 2 0), (13, .ptr 2 0), (0, .ptr 2 0)]⟩, ⟨[(8, .row 1 (s1.map bt) ts1 false), (7, .row 1 [[.bool false]] 0 false), (6, .row 1 [[.lst false (List.map bt v25)]] 0 false), (5, .row 1 (List.map bt v25) ts1_25 true), (4, .row 1 (List.map cD (s2_6 ++ [false])) (ts2_6 + 1) false), (3, .row 1 (List.map eN (s1_6 ++ [v25])) (ts1_6 + 1) false), (2, .cells [.lst false (List.map bt v4), .own 3 (ts1_6 + 1), .own 4 (ts2_6 + 1), .own 8 ts1]), (1, .cells [.az]), (0, aS)], 9, 0, [], []⟩, List.length (s2_6 ++ [false]) - iw)) ⟨(0, _, (0)), hv32⟩ ?_
 rintro ⟨i32, s1_32, ts1_32⟩ hq32
 dsimp only at hq32
 refine z ?_
 refine bkd (fun h33 => z ?_) (fun h33 => z ?_)
 obtain ⟨x33, ex33, ed33⟩ := au h33
 rw [ed33, zi] at hq32
 refine z ?_
 refine aK rfl ex33 (z ?_)
 refine bw ex33 (z ?_)
 refine brk (fun h34 => z ?_) (fun h34 => z ?_)
 rw [if_pos h34] at hq32
 obtain ⟨j35, x35, en35, ex35, hq32⟩ := cF hq32
 refine aK en35 ex35 (z ?_)
 refine bT _ (1) ex35 rfl (z ?_)
 exact bk ⟨(i32 + 1, _, (ts1_32)), hq32⟩
 rw [if_neg (nt h34)] at hq32
 exact bk ⟨(i32 + 1, _, (ts1_32)), hq32⟩
 rw [av h33, zi] at hq32
 cases hq32
 refine z ?_
 refine a8 rfl rfl ?_
 obtain ⟨v36, hv36, hm⟩ := ae hm
 refine loop_frzB 2 3 rfl rfl rfl ?_
 refine lg (α := Nat × List Int × Int) aa (fun (nw, s1, s2) => (refF (s1_6 ++ [v25]) nw s1 s2 = some v36, ⟨87, [(5, .func (.func 174) [.ptr 2 0] []), (4, .int .i64 s2), (18, .own 8 ts1_32), (17, .int .i64 ↑(s1_6 ++ [v25]).length), (15, .ptr 2 1), (14, .ptr 2 0), (13, .ptr 2 0), (0, .ptr 2 0)]⟩, ⟨[(8, .row 1 (List.map bt v32) ts1_32 true), (7, .row 1 [[.bool false]] 0 false), (6, .row 1 [[.lst false (List.map bt v25)]] 0 false), (5, .row 1 (List.map bt v25) ts1_25 true), (4, .row 1 (List.map cD (s2_6 ++ [false])) (ts2_6 + 1) false), (3, .row 1 (List.map eN (s1_6 ++ [v25])) (ts1_6 + 1) false), (2, .cells [.lst false (List.map bt v4), .own 3 (ts1_6 + 1), .own 4 (ts2_6 + 1), .lst false (s1.map bt)]), (1, .cells [.az]), (0, aS)], 9, 0, [], []⟩, nw)) ⟨(_, _, _), hv36⟩ ?_
 rintro ⟨n36, s1_36, s2_36⟩ hq36
 dsimp only at hq36
 rcases n36 with _ | n36
 (unfold refF at hq36; cases hq36)
 unfold refF at hq36
 refine z ?_
 obtain ⟨hg37, hq36⟩ := aj hq36
 obtain ⟨hg38, hq36⟩ := aj hq36
 refine ⟨_, _, rfl, rfl, Nat.le_refl _, by omega, ?_⟩
 refine z ?_
 refine gU bt ((s1_6 ++ [v25]).length) (0) (by first | rfl | simp only [List.length_map]) rfl (z ?_)
 obtain ⟨v39, hv39, hq36⟩ := ae hq36
 refine lg (α := Nat × List (List UInt8 × Int) × List Int × Nat) aa (fun (iw, s1, s2, ts2) => (xK (s1_36) (s1_6 ++ [v25]) (List.drop iw (s1_6 ++ [v25])) (iw : Int) s1 s2 = some v39, ⟨87, [(53, .int .i64 iw), (52, .int .i64 ↑(s1_6 ++ [v25]).length), (7, .own 10 ts2), (6, .map 9), (5, .func (.func 174) [.ptr 2 0] []), (4, .int .i64 s2_36), (18, .own 8 ts1_32), (17, .int .i64 ↑(s1_6 ++ [v25]).length), (15, .ptr 2 1), (14, .ptr 2 0), (13, .ptr 2 0), (0, .ptr 2 0)]⟩, ⟨[(10, .row 1 (s2.map bt) ts2 false), (9, .map (gF .str (.int .i64) s1)), (8, .row 1 (List.map bt v32) ts1_32 true), (7, .row 1 [[.bool false]] 0 false), (6, .row 1 [[.lst false (List.map bt v25)]] 0 false), (5, .row 1 (List.map bt v25) ts1_25 true), (4, .row 1 (List.map cD (s2_6 ++ [false])) (ts2_6 + 1) false), (3, .row 1 (List.map eN (s1_6 ++ [v25])) (ts1_6 + 1) false), (2, .cells [.lst false (List.map bt v4), .own 3 (ts1_6 + 1), .own 4 (ts2_6 + 1), .lst false (List.map bt s1_36)]), (1, .cells [.az]), (0, aS)], 11, 0, [], []⟩, List.length (s1_6 ++ [v25]) - iw)) ⟨(0, _, _, (0)), hv39⟩ ?_
 rintro ⟨i39, s1_39, s2_39, ts2_39⟩ hq39
 dsimp only at hq39
 refine z ?_
 refine bkd (fun h40 => z ?_) (fun h40 => z ?_)
 obtain ⟨x40, ex40, ed40⟩ := au h40
 rw [ed40, xK] at hq39
 refine z ?_
 obtain ⟨v41, e41, hq39⟩ := ae hq39
 refine call_sig e41 rfl (.own rfl) (by first | exact .own rfl | exact .lst) rfl (z ?_)
 refine kV (kf := SVal.str) (g := SVal.int IntKind.i64) (fun ef42 => ?_) (fun v42 q42 ef42 => ?_)
 rw [ef42] at hq39
 dsimp only at hq39
 refine z ?_
 refine (z6 (kf := SVal.str) (g := SVal.int IntKind.i64) (by assumption) ?_).2.2
 refine z ?_
 obtain ⟨j43, x43, en43, ex43, hq39⟩ := cF hq39
 refine aK en43 ex43 (z ?_)
 refine bT _ (↑s1_39.length) ex43 rfl (z ?_)
 exact bk ⟨(i39 + 1, _, _, (ts2_39)), hq39⟩
 rw [ef42] at hq39
 dsimp only at hq39
 refine z ?_
 obtain ⟨j44, x44, en44, ex44, hq39⟩ := cF hq39
 refine aK en44 ex44 (z ?_)
 refine bT _ (v42) ex44 rfl (z ?_)
 exact bk ⟨(i39 + 1, _, _, (ts2_39)), hq39⟩
 rw [av h40, xK] at hq39
 cases hq39
 dsimp only at hq36
 refine z ?_
 refine bkd (fun h45 => z ?_) (fun h45 => z ?_)
 rw [if_pos h45] at hq36
 cases hq36
 refine z ?_
 refine ei (z ?_)
 unfold canM at hm
 refine ci aa Tryz.f128 (z ?_)
 rw [Option.bind_assoc] at hm
 unfold liveM at hm
 refine ci aa Tryz.f175 (z ?_)
 rw [Option.bind_assoc] at hm
 obtain ⟨hg46, hm⟩ := aj hm
 refine ⟨_, _, rfl, rfl, Nat.le_refl _, by omega, ?_⟩
 refine z ?_
 refine gU cD ((s1_6 ++ [v25]).length) (false) (by first | rfl | simp only [List.length_map]) rfl (z ?_)
 obtain ⟨v47, hv47, hm⟩ := ae hm
 refine lg (α := Nat × List Bool × Bool × Nat) aa (fun (nw, s1, s2, ts1) => (ri (s2_6 ++ [false]) (v36) (s1_6 ++ [v25]) nw s1 s2 = some v47, ⟨82, [(4, .bool s2), (3, .own 12 ts1), (14, .own 12 ts1), (13, .int .i64 ↑(s1_6 ++ [v25]).length), (11, .ptr 2 1), (10, .ptr 2 0), (9, .ptr 2 0), (2, .az), (0, .ptr 2 0)]⟩, ⟨[(12, .row 1 (s1.map cD) ts1 false), (11, .cells [.az]), (10, .row 1 (List.map bt v36) ts2_39 false), (9, .map (gF .str (.int IntKind.i64) s1_39)), (8, .row 1 (List.map bt v32) ts1_32 true), (7, .row 1 [[.bool false]] 0 false), (6, .row 1 [[.lst false (List.map bt v25)]] 0 false), (5, .row 1 (List.map bt v25) ts1_25 true), (4, .row 1 (List.map cD (s2_6 ++ [false])) (ts2_6 + 1) false), (3, .row 1 (List.map eN (s1_6 ++ [v25])) (ts1_6 + 1) false), (2, .cells [.lst false (List.map bt v4), .own 3 (ts1_6 + 1), .own 4 (ts2_6 + 1), .own 10 ts2_39]), (1, .cells [.az]), (0, aS)], 13, 0, [], []⟩, nw)) ⟨(_, _, _, (0)), hv47⟩ ?_
 rintro ⟨n47, s1_47, s2_47, ts1_47⟩ hq47
 dsimp only at hq47
 rcases n47 with _ | n47
 (unfold ri at hq47; cases hq47)
 unfold ri at hq47
 refine z ?_
 refine brk (fun h48 => z ?_) (fun h48 => z ?_)
 rw [if_pos h48] at hq47
 obtain ⟨hg49, hq47⟩ := aj hq47
 refine a8 rfl rfl ?_
 obtain ⟨v50, hv50, hq47⟩ := ae hq47
 refine lg (α := Nat × List Bool × Bool × Nat) aa (fun (iw, s1, s2, ts1) => (ly (s2_6 ++ [false]) (v36) (List.drop iw (s1_6 ++ [v25])) (iw : Int) s1 s2 = some v50, ⟨82, [(21, .int .i64 iw), (20, .int .i64 ↑(s1_6 ++ [v25]).length), (19, .own 3 (ts1_6 + 1)), (18, .ptr 2 1), (17, .ptr 2 0), (16, .ptr 2 0), (4, .bool s2), (15, .bool s2_47), (3, .own 12 ts1), (14, .own 12 ts1), (13, .int .i64 ↑(s1_6 ++ [v25]).length), (11, .ptr 2 1), (10, .ptr 2 0), (9, .ptr 2 0), (2, .az), (0, .ptr 2 0)]⟩, ⟨[(12, .row 1 (s1.map cD) ts1 false), (11, .cells [.az]), (10, .row 1 (List.map bt v36) ts2_39 false), (9, .map (gF .str (.int IntKind.i64) s1_39)), (8, .row 1 (List.map bt v32) ts1_32 true), (7, .row 1 [[.bool false]] 0 false), (6, .row 1 [[.lst false (List.map bt v25)]] 0 false), (5, .row 1 (List.map bt v25) ts1_25 true), (4, .row 1 (List.map cD (s2_6 ++ [false])) (ts2_6 + 1) false), (3, .row 1 (List.map eN (s1_6 ++ [v25])) (ts1_6 + 1) false), (2, .cells [.lst false (List.map bt v4), .own 3 (ts1_6 + 1), .own 4 (ts2_6 + 1), .own 10 ts2_39]), (1, .cells [.az]), (0, aS)], 13, 0, [], []⟩, List.length (s1_6 ++ [v25]) - iw)) ⟨(0, _, _, (ts1_47)), hv50⟩ ?_
 rintro ⟨i50, s1_50, s2_50, ts1_50⟩ hq50
 dsimp only at hq50
 refine z ?_
 refine bkd (fun h51 => z ?_) (fun h51 => z ?_)
 obtain ⟨x51, ex51, ed51⟩ := au h51
 rw [ed51, ly] at hq50
 refine z ?_
 obtain ⟨j52, x52, en52, ex52, hq50⟩ := aB hq50
 refine aK en52 ex52 (z ?_)
 refine bw ex52 (z ?_)
 obtain ⟨hg53, hq50⟩ := aj hq50
 refine aK rfl ex51 (z ?_)
 refine bw ex51 (z ?_)
 refine a8 rfl rfl ?_
 obtain ⟨v54, hv54, hq50⟩ := ae hq50
 refine lg (α := Nat × Bool) aa (fun (iw, s1) => (gN (v36) (s1_50) (List.drop iw (x51)) s1 = some v54, ⟨82, [(39, .int .i64 iw), (38, .int .i64 ↑x51.length), (37, .lst false (List.map bt x51)), (36, .ec 3 (ts1_6 + 1) i50 0), (35, .int .i64 ↑i50), (34, .own 3 (ts1_6 + 1)), (33, .ptr 2 1), (32, .ptr 2 0), (31, .ptr 2 0), (6, .bool s1), (30, .bool x52), (29, .ec 4 (ts2_6 + 1) j52 0), (28, .int .i64 ↑i50), (27, .own 4 (ts2_6 + 1)), (26, .ptr 2 2), (25, .ptr 2 0), (24, .ptr 2 0), (5, .int .i64 ↑i50), (23, .int .i64 ↑i50), (21, .int .i64 ↑i50), (20, .int .i64 ↑(s1_6 ++ [v25]).length), (19, .own 3 (ts1_6 + 1)), (18, .ptr 2 1), (17, .ptr 2 0), (16, .ptr 2 0), (4, .bool s2_50), (15, .bool s2_47), (3, .own 12 ts1_50), (14, .own 12 ts1_50), (13, .int .i64 ↑(s1_6 ++ [v25]).length), (11, .ptr 2 1), (10, .ptr 2 0), (9, .ptr 2 0), (2, .az), (0, .ptr 2 0)]⟩, ⟨[(12, .row 1 (List.map cD s1_50) ts1_50 false), (11, .cells [.az]), (10, .row 1 (List.map bt v36) ts2_39 false), (9, .map (gF .str (.int IntKind.i64) s1_39)), (8, .row 1 (List.map bt v32) ts1_32 true), (7, .row 1 [[.bool false]] 0 false), (6, .row 1 [[.lst false (List.map bt v25)]] 0 false), (5, .row 1 (List.map bt v25) ts1_25 true), (4, .row 1 (List.map cD (s2_6 ++ [false])) (ts2_6 + 1) false), (3, .row 1 (List.map eN (s1_6 ++ [v25])) (ts1_6 + 1) false), (2, .cells [.lst false (List.map bt v4), .own 3 (ts1_6 + 1), .own 4 (ts2_6 + 1), .own 10 ts2_39]), (1, .cells [.az]), (0, aS)], 13, 0, [], []⟩, List.length (x51) - iw)) ⟨(0, _), hv54⟩ ?_
 rintro ⟨i54, s1_54⟩ hq54
 dsimp only at hq54
 refine z ?_
 refine bkd (fun h55 => z ?_) (fun h55 => z ?_)
 obtain ⟨x55, ex55, ed55⟩ := au h55
 rw [ed55, gN] at hq54
 refine z ?_
 refine a6 ex55 rfl (z ?_)
 refine brk (fun h56 => z ?_) (fun h56 => z ?_)
 rw [if_pos h56] at hq54
 exact bk ⟨(i54 + 1, _), hq54⟩
 rw [if_neg (nt h56)] at hq54
 obtain ⟨j57, x57, en57, ex57, hq54⟩ := aB hq54
 refine aK en57 ex57 (z ?_)
 refine bw ex57 (z ?_)
 obtain ⟨j58, x58, en58, ex58, hq54⟩ := aB hq54
 refine aK en58 ex58 (z ?_)
 refine bw ex58 (z ?_)
 exact bk ⟨(i54 + 1, _), hq54⟩
 rw [av h55, gN] at hq54
 cases hq54
 refine z ?_
 refine brk (fun h59 => z ?_) (fun h59 => z ?_)
 rw [if_pos h59] at hq50
 obtain ⟨j60, x60, en60, ex60, hq50⟩ := aB hq50
 refine aK en60 ex60 (z ?_)
 refine bw ex60 (z ?_)
 obtain ⟨j61, x61, en61, ex61, hq50⟩ := aB hq50
 refine aK en61 ex61 (z ?_)
 refine bw ex61 (z ?_)
 refine bkm (fun h62 => z ?_) (fun h62 => z ?_)
 rw [if_neg (nt h62)] at hq50
 obtain ⟨j63, x63, en63, ex63, hq50⟩ := aB hq50
 refine aK en63 ex63 (z ?_)
 refine bw ex63 (z ?_)
 obtain ⟨j64, x64, en64, ex64, hq50⟩ := cF hq50
 refine aK en64 ex64 (z ?_)
 refine bT _ (true) ex64 rfl (z ?_)
 exact bk ⟨(i50 + 1, _, _, (ts1_50)), hq50⟩
 rw [if_pos h62] at hq50
 exact bk ⟨(i50 + 1, _, _, (ts1_50)), hq50⟩
 rw [if_neg (nt h59)] at hq50
 exact bk ⟨(i50 + 1, _, _, (ts1_50)), hq50⟩
 rw [av h51, ly] at hq50
 cases hq50
 dsimp only at hq47
 refine z ?_
 exact bk ⟨(n47, _, _, (ts1_50)), hq47⟩
 rw [if_neg (nt h48)] at hq47
 cases hq47
 rw [Option.bind_assoc] at hm
 refine z ?_
 refine ei (z ?_)
 obtain ⟨j65, x65, en65, ex65, hm⟩ := aB hm
 refine aK en65 ex65 ?_
 rw [Option.bind_assoc] at hm
 refine z ?_
 refine bw ex65 (z ?_)
 obtain ⟨j66, x66, en66, ex66, hm⟩ := aB hm
 refine aK en66 ex66 (z ?_)
 refine bw ex66 (z ?_)
 refine bkm (fun h67 => z ?_) (fun h67 => z ?_)
 rw [if_neg (nt h67)] at hm
 dsimp only [Option.bind_some] at hm
 refine z ?_
 refine ei (z ?_)
 cases hm
 refine aR (z ?_)
 exact mt
 rw [if_pos h67] at hm
 rw [Option.bind_assoc] at hm
 refine z ?_
 obtain ⟨j68, x68, en68, ex68, hm⟩ := aB hm
 refine aK en68 ex68 (z ?_)
 refine bw ex68 (z ?_)
 first | refine ⟨(fun p hp => by cases hp), .nil, ?_⟩ | refine ⟨by first | trivial | rfl, (fun p hp => by cases hp), .nil, ?_⟩
 refine z ?_
 obtain ⟨v69, hv69, hm⟩ := ae hm
 refine bj 15 0 2 rfl rfl ?_
 refine lg (α := Nat × Int × List Int × List (Int × Int) × List Stt × Nat × Nat) aa (fun (nw, s1, s2, s3, s4, ts2, ts4) => (canF (v4) (s1_6 ++ [v25]) (s2_6 ++ [false]) (v36) (v47) nw s1 s2 s3 s4 = some v69, ⟨172, [(7, .int .i64 s1), (6, .ptr 15 0), (5, .map 14), (4, .own 13 ts2), (18, .ptr 2 0), (17, .own 12 ts1_47), (3, .own 12 ts1_47), (16, .own 12 ts1_47), (15, .ptr 2 0), (2, .ptr 11 0), (0, .ptr 2 0)]⟩, ⟨[(16, .row 2 (s4.map fu) ts4 false), (15, .cells [.own 16 ts4]), (14, .map (gF (.int .i64) (.int .i64) s3)), (13, .row 1 (s2.map bt) ts2 false), (12, .row 1 (List.map cD v47) ts1_47 false), (11, .cells [.az]), (10, .row 1 (List.map bt v36) ts2_39 false), (9, .map (gF .str (.int IntKind.i64) s1_39)), (8, .row 1 (List.map bt v32) ts1_32 true), (7, .row 1 [[.bool false]] 0 false), (6, .row 1 [[.lst false (List.map bt v25)]] 0 false), (5, .row 1 (List.map bt v25) ts1_25 true), (4, .row 1 (List.map cD (s2_6 ++ [false])) (ts2_6 + 1) false), (3, .row 1 (List.map eN (s1_6 ++ [v25])) (ts1_6 + 1) false), (2, .cells [.lst false (List.map bt v4), .own 3 (ts1_6 + 1), .own 4 (ts2_6 + 1), .own 10 ts2_39]), (1, .cells [.az]), (0, aS)], 17, 0, [], []⟩, nw)) ⟨(_, _, _, _, _, (0), (0)), hv69⟩ ?_
 rintro ⟨n69, s1_69, s2_69, s3_69, s4_69, ts2_69, ts4_69⟩ hq69
 dsimp only at hq69
 rcases n69 with _ | n69
 (unfold canF at hq69; cases hq69)
 unfold canF at hq69
 refine z ?_
 obtain ⟨hg70, hq69⟩ := aj hq69
 refine bkd (fun h71 => z ?_) (fun h71 => z ?_)
 rw [if_pos h71] at hq69
 refine dg aa [0,1,3,7,0,0,48,112,255,511,1023,0,4095] [] (z ?_)
 obtain ⟨j72, x72, en72, ex72, hq69⟩ := aB hq69
 refine aK en72 ex72 (z ?_)
 refine bw ex72 (z ?_)
 obtain ⟨j73, x73, en73, ex73, hq69⟩ := aB hq69
 refine aK en73 ex73 (z ?_)
 refine bw ex73 (z ?_)
 refine dg aa [0,1,3,7,0,0,48,112,255,511,1023,0] [] (z ?_)
 obtain ⟨j74, x74, en74, ex74, hq69⟩ := aB hq69
 refine aK en74 ex74 (z ?_)
 refine bw ex74 (z ?_)
 obtain ⟨j75, x75, en75, ex75, hq69⟩ := aB hq69
 refine aK en75 ex75 (z ?_)
 refine bw ex75 (z ?_)
 obtain ⟨hg76, hq69⟩ := aj hq69
 obtain ⟨v77, hv77, hq69⟩ := ae hq69
 refine bj 17 1 3 rfl rfl ?_
 refine lg (α := Nat × List Int × List (Int × Int) × List Sv.Edge × Nat × Nat) aa (fun (iw, s1, s2, s3, ts1, ts3) => (wq (v4) (v36) (v47) (List.drop iw (x75)) (iw : Int) s1 s2 s3 = some v77, ⟨172, [(65, .int .i64 iw), (64, .int .i64 ↑x75.length), (63, .lst false (List.map bt x75)), (8, .ptr 17 0), (7, .int .i64 s1_69), (6, .ptr 15 0), (5, .map 14), (4, .own 13 ts1), (18, .ptr 2 0), (17, .own 12 ts1_47), (3, .own 12 ts1_47), (16, .own 12 ts1_47), (15, .ptr 2 0), (2, .ptr 11 0), (0, .ptr 2 0)]⟩, ⟨[(18, .row 3 (s3.map ck) ts3 false), (17, .cells [.bool x73, .own 18 ts3]), (16, .row 2 (List.map fu s4_69) ts4_69 false), (15, .cells [.own 16 ts4_69]), (14, .map (gF (.int .i64) (.int .i64) s2)), (13, .row 1 (s1.map bt) ts1 false), (12, .row 1 (List.map cD v47) ts1_47 false), (11, .cells [.az]), (10, .row 1 (List.map bt v36) ts2_39 false), (9, .map (gF .str (.int IntKind.i64) s1_39)), (8, .row 1 (List.map bt v32) ts1_32 true), (7, .row 1 [[.bool false]] 0 false), (6, .row 1 [[.lst false (List.map bt v25)]] 0 false), (5, .row 1 (List.map bt v25) ts1_25 true), (4, .row 1 (List.map cD (s2_6 ++ [false])) (ts2_6 + 1) false), (3, .row 1 (List.map eN (s1_6 ++ [v25])) (ts1_6 + 1) false), (2, .cells [.lst false (List.map bt v4), .own 3 (ts1_6 + 1), .own 4 (ts2_6 + 1), .own 10 ts2_39]), (1, .cells [.az]), (0, aS)], 19, 0, [], []⟩, List.length (x75) - iw)) ⟨(0, _, _, _, (ts2_69), (0)), hv77⟩ ?_
 rintro ⟨i77, s1_77, s2_77, s3_77, ts1_77, ts3_77⟩ hq77
 dsimp only at hq77
 refine z ?_
 refine bkd (fun h78 => z ?_) (fun h78 => z ?_)
 obtain ⟨x78, ex78, ed78⟩ := au h78
 rw [ed78, wq] at hq77
 refine z ?_
 refine a6 ex78 rfl (z ?_)
 obtain ⟨j79, x79, en79, ex79, hq77⟩ := aB hq77
 refine aK en79 ex79 (z ?_)
 refine bw ex79 (z ?_)
 obtain ⟨j80, x80, en80, ex80, hq77⟩ := aB hq77
 refine aK en80 ex80 (z ?_)
 refine bw ex80 (z ?_)
 refine bkm (fun h81 => z ?_) (fun h81 => z ?_)
 rw [if_neg (nt h81)] at hq77
 exact bk ⟨(i77 + 1, _, _, _, (ts1_77), (ts3_77)), hq77⟩
 rw [if_pos h81] at hq77
 refine kV (kf := SVal.int IntKind.i64) (g := SVal.int IntKind.i64) (fun ef82 => ?_) (fun v82 q82 ef82 => ?_)
 rw [ef82] at hq77
 dsimp only at hq77
 refine z ?_
 refine (z6 (kf := SVal.int IntKind.i64) (g := SVal.int IntKind.i64) (by assumption) ?_).2.2
 refine z ?_
 obtain ⟨hg83, hq77⟩ := aD hq77
 refine z ?_
 refine aH (x78) rfl (z ?_)
 refine dg aa [0,1,3,7,15,7,39,127,255,511,7,7,3079,8191,16383,32767,65535,131071,65535,327679,1048575,2097151,4194303,8388607,16777215,65535,33619967,100728831,234946559,65535,1040252927,2113994751,4294967295,8589934591] [] (z ?_)
 obtain ⟨hg84, hq77⟩ := aj hq77
 unfold canX at hq77
 refine bkd (fun h85 => z ?_) (fun h85 => z ?_)
 rw [if_pos h85] at hq77
 rw [Option.bind_assoc] at hq77
 refine z ?_
 obtain ⟨j86, x86, en86, ex86, hq77⟩ := aB hq77
 refine aK en86 ex86 (z ?_)
 refine bw ex86 (z ?_)
 refine kV (kf := SVal.int IntKind.i64) (g := SVal.int IntKind.i64) (fun ef87 => ?_) (fun v87 q87 ef87 => ?_)
 rw [ef87] at hq77
 dsimp only at hq77
 cases hq77
 rw [ef87] at hq77
 dsimp only at hq77
 refine z ?_
 refine bkd (fun h88 => z ?_) (fun h88 => z ?_)
 rw [if_pos h88] at hq77
 rw [Option.bind_assoc] at hq77
 refine z ?_
 obtain ⟨j89, x89, en89, ex89, hq77⟩ := aB hq77
 refine aK en89 ex89 ?_
 rw [Option.bind_assoc] at hq77
 refine z ?_
 refine bw ex89 (z ?_)
 obtain ⟨hg90, hq77⟩ := aj hq77
 rw [Option.bind_assoc] at hq77
 refine z ?_
 obtain ⟨j92, x92, en92, ex92, hq77⟩ := aB hq77
 refine bf en92 ex92 rfl (z ?_)
 refine bkd (fun h93 => z ?_) (fun h93 => z ?_)
 rw [if_pos h93] at hq77
 rw [Option.bind_assoc] at hq77
 refine z ?_
 refine dg aa [0,1,0,4,0,0,48,127,255,511] [] (z ?_)
 unfold pq at hq77
 refine cd aa Tryz.f176 (z ?_)
 refine bkd (fun h94 => z ?_) (fun h94 => z ?_)
 rw [if_pos h94] at hq77
 rw [Option.bind_assoc] at hq77
 refine z ?_
 obtain ⟨j95, x95, en95, ex95, hq77⟩ := aB hq77
 refine bf en95 ex95 rfl ?_
 rw [Option.bind_assoc] at hq77
 refine z ?_
 obtain ⟨hg96, hq77⟩ := aj hq77
 dsimp only [Option.bind_some] at hq77
 refine z ?_
 refine ed (z ?_)
 obtain ⟨j98, x98, en98, ex98, hq77⟩ := bL hq77
 refine aK en98 ex98 (z ?_)
 refine bT _ ({ lo := x98.lo, hi := x95 - 1, to := x98.to }) ex98 rfl (z ?_)
 exact bk ⟨(i77 + 1, _, _, _, (ts1_77 + 1), (ts3_77)), hq77⟩
 rw [if_neg h94] at hq77
 dsimp only [Option.bind_some] at hq77
 refine z ?_
 refine ed (z ?_)
 obtain ⟨j99, x99, en99, ex99, hq77⟩ := bL hq77
 refine aK en99 ex99 (z ?_)
 refine bT _ ({ lo := x99.lo, hi := 255, to := x99.to }) ex99 rfl (z ?_)
 exact bk ⟨(i77 + 1, _, _, _, (ts1_77 + 1), (ts3_77)), hq77⟩
 rw [if_neg h93] at hq77
 unfold sg at hq77
 rw [Option.bind_assoc] at hq77
 refine z ?_
 refine dg aa [0,1,0,4,12,28,0,124,252,508,0,0,3072,0,0,24576,65532,131068,262143,524287,1048575] [] (z ?_)
 obtain ⟨j100, x100, en100, ex100, hq77⟩ := aB hq77
 refine bf en100 ex100 rfl ?_
 rw [Option.bind_assoc] at hq77
 refine z ?_
 obtain ⟨hg101, hq77⟩ := aj hq77
 rw [Option.bind_assoc] at hq77
 refine z ?_
 unfold pq at hq77
 refine cd aa Tryz.f176 (z ?_)
 refine bkd (fun h103 => z ?_) (fun h103 => z ?_)
 rw [if_pos h103] at hq77
 rw [Option.bind_assoc] at hq77
 refine z ?_
 obtain ⟨j104, x104, en104, ex104, hq77⟩ := aB hq77
 refine bf en104 ex104 rfl ?_
 rw [Option.bind_assoc] at hq77
 refine z ?_
 obtain ⟨hg105, hq77⟩ := aj hq77
 dsimp only [Option.bind_some] at hq77
 rw [ef87] at hq77
 dsimp only at hq77
 obtain ⟨hg106, hq77⟩ := aD hq77
 refine z ?_
 refine ed (z ?_)
 refine dP (kf := SVal.int IntKind.i64) (g := SVal.int IntKind.i64) ef87 (fun q107 => ?_)
 refine z ?_
 refine aH ({ lo := x100, hi := x104 - 1, to := v87 }) rfl (z ?_)
 exact bk ⟨(i77 + 1, _, _, _, (ts1_77 + 1), (ts3_77 + 1)), hq77⟩
 rw [if_neg h103] at hq77
 dsimp only [Option.bind_some] at hq77
 rw [ef87] at hq77
 dsimp only at hq77
 refine z ?_
 refine ed (z ?_)
 refine dP (kf := SVal.int IntKind.i64) (g := SVal.int IntKind.i64) ef87 (fun q109 => ?_)
 refine z ?_
 obtain ⟨hg110, hq77⟩ := aD hq77
 refine z ?_
 refine aH ({ lo := x100, hi := 255, to := v87 }) rfl (z ?_)
 exact bk ⟨(i77 + 1, _, _, _, (ts1_77 + 1), (ts3_77 + 1)), hq77⟩
 rw [if_neg h88] at hq77
 unfold sg at hq77
 rw [Option.bind_assoc] at hq77
 refine z ?_
 refine dg aa [0,1,0,4,12,28,0,124,252,508,0,0,3072,0,0,24576,65532,131068,262143,524287,1048575] [] (z ?_)
 obtain ⟨j111, x111, en111, ex111, hq77⟩ := aB hq77
 refine bf en111 ex111 rfl ?_
 rw [Option.bind_assoc] at hq77
 refine z ?_
 obtain ⟨hg112, hq77⟩ := aj hq77
 rw [Option.bind_assoc] at hq77
 refine z ?_
 unfold pq at hq77
 refine cd aa Tryz.f176 (z ?_)
 refine bkd (fun h114 => z ?_) (fun h114 => z ?_)
 rw [if_pos h114] at hq77
 rw [Option.bind_assoc] at hq77
 refine z ?_
 obtain ⟨j115, x115, en115, ex115, hq77⟩ := aB hq77
 refine bf en115 ex115 rfl ?_
 rw [Option.bind_assoc] at hq77
 refine z ?_
 obtain ⟨hg116, hq77⟩ := aj hq77
 dsimp only [Option.bind_some] at hq77
 rw [ef87] at hq77
 dsimp only at hq77
 obtain ⟨hg117, hq77⟩ := aD hq77
 refine z ?_
 refine ed (z ?_)
 refine dP (kf := SVal.int IntKind.i64) (g := SVal.int IntKind.i64) ef87 (fun q118 => ?_)
 refine z ?_
 refine aH ({ lo := x111, hi := x115 - 1, to := v87 }) rfl (z ?_)
 exact bk ⟨(i77 + 1, _, _, _, (ts1_77 + 1), (ts3_77 + 1)), hq77⟩
 rw [if_neg h114] at hq77
 dsimp only [Option.bind_some] at hq77
 rw [ef87] at hq77
 dsimp only at hq77
 refine z ?_
 refine ed (z ?_)
 refine dP (kf := SVal.int IntKind.i64) (g := SVal.int IntKind.i64) ef87 (fun q120 => ?_)
 refine z ?_
 obtain ⟨hg121, hq77⟩ := aD hq77
 refine z ?_
 refine aH ({ lo := x111, hi := 255, to := v87 }) rfl (z ?_)
 exact bk ⟨(i77 + 1, _, _, _, (ts1_77 + 1), (ts3_77 + 1)), hq77⟩
 rw [if_neg h85] at hq77
 unfold sg at hq77
 rw [Option.bind_assoc] at hq77
 refine z ?_
 refine dg aa [0,1,0,4,12,28,0,124,252,508,0,0,3072,0,0,24576,65532,131068,262143,524287,1048575] [] (z ?_)
 obtain ⟨j122, x122, en122, ex122, hq77⟩ := aB hq77
 refine bf en122 ex122 rfl ?_
 rw [Option.bind_assoc] at hq77
 refine z ?_
 obtain ⟨hg123, hq77⟩ := aj hq77
 rw [Option.bind_assoc] at hq77
 refine z ?_
 unfold pq at hq77
 refine cd aa Tryz.f176 (z ?_)
 refine bkd (fun h125 => z ?_) (fun h125 => z ?_)
 rw [if_pos h125] at hq77
 rw [Option.bind_assoc] at hq77
 refine z ?_
 obtain ⟨j126, x126, en126, ex126, hq77⟩ := aB hq77
 refine bf en126 ex126 rfl ?_
 rw [Option.bind_assoc] at hq77
 refine z ?_
 obtain ⟨hg127, hq77⟩ := aj hq77
 dsimp only [Option.bind_some] at hq77
 refine z ?_
 refine ed (z ?_)
 refine kV (kf := SVal.int IntKind.i64) (g := SVal.int IntKind.i64) (fun ef129 => ?_) (fun v129 q129 ef129 => ?_)
 rw [ef129] at hq77
 dsimp only at hq77
 cases hq77
 rw [ef129] at hq77
 dsimp only at hq77
 refine z ?_
 obtain ⟨hg130, hq77⟩ := aD hq77
 refine z ?_
 refine aH ({ lo := x122, hi := x126 - 1, to := v129 }) rfl (z ?_)
 exact bk ⟨(i77 + 1, _, _, _, (ts1_77 + 1), (ts3_77 + 1)), hq77⟩
 rw [if_neg h125] at hq77
 dsimp only [Option.bind_some] at hq77
 refine z ?_
 refine ed (z ?_)
 refine kV (kf := SVal.int IntKind.i64) (g := SVal.int IntKind.i64) (fun ef131 => ?_) (fun v131 q131 ef131 => ?_)
 rw [ef131] at hq77
 dsimp only at hq77
 cases hq77
 rw [ef131] at hq77
 dsimp only at hq77
 refine z ?_
 obtain ⟨hg132, hq77⟩ := aD hq77
 refine z ?_
 refine aH ({ lo := x122, hi := 255, to := v131 }) rfl (z ?_)
 exact bk ⟨(i77 + 1, _, _, _, (ts1_77 + 1), (ts3_77 + 1)), hq77⟩
 rw [ef82] at hq77
 dsimp only at hq77
 refine z ?_
 refine dg aa [0,1,3,7,15,7,39,127,255,511,7,7,3079,8191,16383,32767,65535,131071,65535,327679,1048575,2097151,4194303,8388607,16777215,65535,33619967,100728831,234946559,65535,1040252927,2113994751,4294967295,8589934591] [] (z ?_)
 obtain ⟨hg133, hq77⟩ := aj hq77
 unfold canX at hq77
 refine bkd (fun h134 => z ?_) (fun h134 => z ?_)
 rw [if_pos h134] at hq77
 rw [Option.bind_assoc] at hq77
 refine z ?_
 obtain ⟨j135, x135, en135, ex135, hq77⟩ := aB hq77
 refine aK en135 ex135 ?_
 rw [ef82] at hq77
 dsimp only at hq77
 refine z ?_
 refine bw ex135 (z ?_)
 refine dP (kf := SVal.int IntKind.i64) (g := SVal.int IntKind.i64) ef82 (fun q136 => ?_)
 refine z ?_
 refine bkd (fun h137 => z ?_) (fun h137 => z ?_)
 rw [if_pos h137] at hq77
 rw [Option.bind_assoc] at hq77
 refine z ?_
 obtain ⟨j138, x138, en138, ex138, hq77⟩ := aB hq77
 refine aK en138 ex138 ?_
 rw [Option.bind_assoc] at hq77
 refine z ?_
 refine bw ex138 (z ?_)
 obtain ⟨hg139, hq77⟩ := aj hq77
 rw [Option.bind_assoc] at hq77
 refine z ?_
 obtain ⟨j141, x141, en141, ex141, hq77⟩ := aB hq77
 refine bf en141 ex141 rfl (z ?_)
 refine bkd (fun h142 => z ?_) (fun h142 => z ?_)
 rw [if_pos h142] at hq77
 rw [Option.bind_assoc] at hq77
 refine z ?_
 refine dg aa [0,1,0,4,0,0,48,127,255,511] [] (z ?_)
 unfold pq at hq77
 refine cd aa Tryz.f176 (z ?_)
 refine bkd (fun h143 => z ?_) (fun h143 => z ?_)
 rw [if_pos h143] at hq77
 rw [Option.bind_assoc] at hq77
 refine z ?_
 obtain ⟨j144, x144, en144, ex144, hq77⟩ := aB hq77
 refine bf en144 ex144 rfl ?_
 rw [Option.bind_assoc] at hq77
 refine z ?_
 obtain ⟨hg145, hq77⟩ := aj hq77
 dsimp only [Option.bind_some] at hq77
 refine z ?_
 refine ed (z ?_)
 obtain ⟨j147, x147, en147, ex147, hq77⟩ := bL hq77
 refine aK en147 ex147 (z ?_)
 refine bT _ ({ lo := x147.lo, hi := x144 - 1, to := x147.to }) ex147 rfl (z ?_)
 exact bk ⟨(i77 + 1, _, _, _, (ts1_77), (ts3_77)), hq77⟩
 rw [if_neg h143] at hq77
 dsimp only [Option.bind_some] at hq77
 refine z ?_
 refine ed (z ?_)
 obtain ⟨j148, x148, en148, ex148, hq77⟩ := bL hq77
 refine aK en148 ex148 (z ?_)
 refine bT _ ({ lo := x148.lo, hi := 255, to := x148.to }) ex148 rfl (z ?_)
 exact bk ⟨(i77 + 1, _, _, _, (ts1_77), (ts3_77)), hq77⟩
 rw [if_neg h142] at hq77
 unfold sg at hq77
 rw [Option.bind_assoc] at hq77
 refine z ?_
 refine dg aa [0,1,0,4,12,28,0,124,252,508,0,0,3072,0,0,24576,65532,131068,262143,524287,1048575] [] (z ?_)
 obtain ⟨j149, x149, en149, ex149, hq77⟩ := aB hq77
 refine bf en149 ex149 rfl ?_
 rw [Option.bind_assoc] at hq77
 refine z ?_
 obtain ⟨hg150, hq77⟩ := aj hq77
 rw [Option.bind_assoc] at hq77
 refine z ?_
 unfold pq at hq77
 refine cd aa Tryz.f176 (z ?_)
 refine bkd (fun h152 => z ?_) (fun h152 => z ?_)
 rw [if_pos h152] at hq77
 rw [Option.bind_assoc] at hq77
 refine z ?_
 obtain ⟨j153, x153, en153, ex153, hq77⟩ := aB hq77
 refine bf en153 ex153 rfl ?_
 rw [Option.bind_assoc] at hq77
 refine z ?_
 obtain ⟨hg154, hq77⟩ := aj hq77
 dsimp only [Option.bind_some] at hq77
 rw [ef82] at hq77
 dsimp only at hq77
 obtain ⟨hg155, hq77⟩ := aD hq77
 refine z ?_
 refine ed (z ?_)
 refine dP (kf := SVal.int IntKind.i64) (g := SVal.int IntKind.i64) ef82 (fun q156 => ?_)
 refine z ?_
 refine aH ({ lo := x149, hi := x153 - 1, to := v82 }) rfl (z ?_)
 exact bk ⟨(i77 + 1, _, _, _, (ts1_77), (ts3_77 + 1)), hq77⟩
 rw [if_neg h152] at hq77
 dsimp only [Option.bind_some] at hq77
 rw [ef82] at hq77
 dsimp only at hq77
 refine z ?_
 refine ed (z ?_)
 refine dP (kf := SVal.int IntKind.i64) (g := SVal.int IntKind.i64) ef82 (fun q158 => ?_)
 refine z ?_
 obtain ⟨hg159, hq77⟩ := aD hq77
 refine z ?_
 refine aH ({ lo := x149, hi := 255, to := v82 }) rfl (z ?_)
 exact bk ⟨(i77 + 1, _, _, _, (ts1_77), (ts3_77 + 1)), hq77⟩
 rw [if_neg h137] at hq77
 unfold sg at hq77
 rw [Option.bind_assoc] at hq77
 refine z ?_
 refine dg aa [0,1,0,4,12,28,0,124,252,508,0,0,3072,0,0,24576,65532,131068,262143,524287,1048575] [] (z ?_)
 obtain ⟨j160, x160, en160, ex160, hq77⟩ := aB hq77
 refine bf en160 ex160 rfl ?_
 rw [Option.bind_assoc] at hq77
 refine z ?_
 obtain ⟨hg161, hq77⟩ := aj hq77
 rw [Option.bind_assoc] at hq77
 refine z ?_
 unfold pq at hq77
 refine cd aa Tryz.f176 (z ?_)
 refine bkd (fun h163 => z ?_) (fun h163 => z ?_)
 rw [if_pos h163] at hq77
 rw [Option.bind_assoc] at hq77
 refine z ?_
 obtain ⟨j164, x164, en164, ex164, hq77⟩ := aB hq77
 refine bf en164 ex164 rfl ?_
 rw [Option.bind_assoc] at hq77
 refine z ?_
 obtain ⟨hg165, hq77⟩ := aj hq77
 dsimp only [Option.bind_some] at hq77
 rw [ef82] at hq77
 dsimp only at hq77
 obtain ⟨hg166, hq77⟩ := aD hq77
 refine z ?_
 refine ed (z ?_)
 refine dP (kf := SVal.int IntKind.i64) (g := SVal.int IntKind.i64) ef82 (fun q167 => ?_)
 refine z ?_
 refine aH ({ lo := x160, hi := x164 - 1, to := v82 }) rfl (z ?_)
 exact bk ⟨(i77 + 1, _, _, _, (ts1_77), (ts3_77 + 1)), hq77⟩
 rw [if_neg h163] at hq77
 dsimp only [Option.bind_some] at hq77
 rw [ef82] at hq77
 dsimp only at hq77
 refine z ?_
 refine ed (z ?_)
 refine dP (kf := SVal.int IntKind.i64) (g := SVal.int IntKind.i64) ef82 (fun q169 => ?_)
 refine z ?_
 obtain ⟨hg170, hq77⟩ := aD hq77
 refine z ?_
 refine aH ({ lo := x160, hi := 255, to := v82 }) rfl (z ?_)
 exact bk ⟨(i77 + 1, _, _, _, (ts1_77), (ts3_77 + 1)), hq77⟩
 rw [if_neg h134] at hq77
 unfold sg at hq77
 rw [Option.bind_assoc] at hq77
 refine z ?_
 refine dg aa [0,1,0,4,12,28,0,124,252,508,0,0,3072,0,0,24576,65532,131068,262143,524287,1048575] [] (z ?_)
 obtain ⟨j171, x171, en171, ex171, hq77⟩ := aB hq77
 refine bf en171 ex171 rfl ?_
 rw [Option.bind_assoc] at hq77
 refine z ?_
 obtain ⟨hg172, hq77⟩ := aj hq77
 rw [Option.bind_assoc] at hq77
 refine z ?_
 unfold pq at hq77
 refine cd aa Tryz.f176 (z ?_)
 refine bkd (fun h174 => z ?_) (fun h174 => z ?_)
 rw [if_pos h174] at hq77
 rw [Option.bind_assoc] at hq77
 refine z ?_
 obtain ⟨j175, x175, en175, ex175, hq77⟩ := aB hq77
 refine bf en175 ex175 rfl ?_
 rw [Option.bind_assoc] at hq77
 refine z ?_
 obtain ⟨hg176, hq77⟩ := aj hq77
 dsimp only [Option.bind_some] at hq77
 rw [ef82] at hq77
 dsimp only at hq77
 obtain ⟨hg177, hq77⟩ := aD hq77
 refine z ?_
 refine ed (z ?_)
 refine dP (kf := SVal.int IntKind.i64) (g := SVal.int IntKind.i64) ef82 (fun q178 => ?_)
 refine z ?_
 refine aH ({ lo := x171, hi := x175 - 1, to := v82 }) rfl (z ?_)
 exact bk ⟨(i77 + 1, _, _, _, (ts1_77), (ts3_77 + 1)), hq77⟩
 rw [if_neg h174] at hq77
 dsimp only [Option.bind_some] at hq77
 rw [ef82] at hq77
 dsimp only at hq77
 refine z ?_
 refine ed (z ?_)
 refine dP (kf := SVal.int IntKind.i64) (g := SVal.int IntKind.i64) ef82 (fun q180 => ?_)
 refine z ?_
 obtain ⟨hg181, hq77⟩ := aD hq77
 refine z ?_
 refine aH ({ lo := x171, hi := 255, to := v82 }) rfl (z ?_)
 exact bk ⟨(i77 + 1, _, _, _, (ts1_77), (ts3_77 + 1)), hq77⟩
 rw [av h78, wq] at hq77
 cases hq77
 dsimp only at hq69
 refine z ?_
 obtain ⟨hg182, hq69⟩ := aD hq69
 refine z ?_
 refine aH ({ acc := x73, aL := s3_77 }) rfl (z ?_)
 exact bk ⟨(n69, _, _, _, _, (ts1_77), (ts4_69 + 1)), hq69⟩
 rw [if_neg h71] at hq69
 cases hq69
 refine z ?_
 refine ei (z ?_)
 cases hm
 refine aR (z ?_)
 exact mt
 rw [if_neg h45] at hq36
 refine sy rfl rfl ?_
 refine uQ 2 3 rfl rfl rfl ?_
 exact bk ⟨(n36, _, _), hq36⟩
end Go.Proofs.YtmjddpeookapaaaGreatDoor
