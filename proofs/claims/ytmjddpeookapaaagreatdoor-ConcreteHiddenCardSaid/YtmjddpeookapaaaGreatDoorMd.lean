/- For ConcreteHidden: functions of the program, walked beside Lean functions that say what they compute. -/
import Derived.Test.YtmjddpeookapaaaGreatDoorEn
import Derived.KernelRfl
import Derived.Test.YtmjddpeookapaaaGreatDoorSS
import Derived.Test.YtmjddpeookapaaaGreatDoorCC
import Derived.Test.YtmjddpeookapaaaGreatDoorCG
set_option linter.unusedVariables false
set_option linter.unusedSimpArgs false
set_option linter.unusedSectionVars false
namespace Go.Proofs.YtmjddpeookapaaaGreatDoor
open Sv
set_option maxRecDepth 100000
set_option maxHeartbeats 2000000
structure cK where
 ints : List Sv.Span
 bK : List Sv.Span
def cw (n : cK) : List SVal := [aQ n.ints, aQ n.bK]
instance : Cl cw := ⟨fun n => by simp only [cw, aw, bB, Bool.and_self]⟩
abbrev mx (a b : Int) : Int := if b > a then b else a
abbrev mn (a b : Int) : Int := if b < a then b else a
def cmpSp (a b : Sv.Span) : Option Int := (cmpJ a.lo b.lo).bind fun r => some r
theorem cmpSp_ok {a b : Sv.Span} {r : Int} (hm : cmpSp a b = some r) : Has Tryz.prog 166 [.agg (b6 a), .agg (b6 b)] fun s => s = .int .i64 r := by
 refine hs aa Tryz.f166 ?_
 unfold cmpSp at hm
 refine z ?_
 obtain ⟨v1, e1, hm⟩ := ae hm
 refine ce (cmpJ_ok e1) (z ?_)
 cases hm
 exact fc
/-! numset -/
def whole (n : Int) : Option Int := (cX (n + 1)).bind fun _ => some (n + 1)
theorem wM {n r : Int} (hm : whole n = some r) : Has Tryz.prog 115 [.int .i64 n] fun s => s = .int .i64 r := by
 refine hs aa Tryz.f115 ?_
 unfold whole at hm
 refine z ?_
 obtain ⟨hg1, hm⟩ := aj hm
 refine z ?_
 cases hm
 exact fc
def back (n : Int) : Option Int := (cX (n - 1)).bind fun _ => some (n - 1)
theorem back_ok {n r : Int} (hm : back n = some r) : Has Tryz.prog 181 [.int .i64 n] fun s => s = .int .i64 r := by
 refine hs aa Tryz.f181 ?_
 unfold back at hm
 refine z ?_
 obtain ⟨hg1, hm⟩ := aj hm
 refine z ?_
 cases hm
 exact fc
def after (u : Int) : Option Int := (cX (u + 1)).bind fun _ => if (u + 1).tmod 10000 = 0 then (cX (u + 2)).bind fun _ => some (u + 2) else some (u + 1)
theorem zA {n r : Int} (hm : after n = some r) : Has Tryz.prog 116 [.int .i64 n] fun s => s = .int .i64 r := by
 refine hs aa Tryz.f116 ?_
 unfold after at hm
 refine z ?_
 obtain ⟨hg1, hm⟩ := aj hm
 refine z ?_
 refine bkd (fun h2 => z ?_) (fun h2 => z ?_)
 rw [if_pos h2] at hm
 obtain ⟨hg3, hm⟩ := aj hm
 refine z ?_
 cases hm
 exact fc
 rw [if_neg h2] at hm
 cases hm
 exact fc
def before (u : Int) : Option Int := (cX (u - 1)).bind fun _ => if (u - 1).tmod 10000 = 0 then (cX (u - 2)).bind fun _ => some (u - 2) else some (u - 1)
theorem before_ok {n r : Int} (hm : before n = some r) : Has Tryz.prog 182 [.int .i64 n] fun s => s = .int .i64 r := by
 refine hs aa Tryz.f182 ?_
 unfold before at hm
 refine z ?_
 obtain ⟨hg1, hm⟩ := aj hm
 refine z ?_
 refine bkd (fun h2 => z ?_) (fun h2 => z ?_)
 rw [if_pos h2] at hm
 obtain ⟨hg3, hm⟩ := aj hm
 refine z ?_
 cases hm
 exact fc
 rw [if_neg h2] at hm
 cases hm
 exact fc
def lz (next : Int → Option Int) : List Sv.Span → List Sv.Span → Option (List Sv.Span)
 | [], out => some out
 | s :: r, out => (aN out).bind fun _ => if (out.length : Int) > 0 then (atI out (out.length - 1)).bind fun p => (next p.hi).bind fun q => if s.lo ≤ q then
    (atI out (out.length - 1)).bind fun p => (nP out (out.length - 1) fun z => ⟨z.lo, mx p.hi s.hi⟩).bind fun out => lz next r out
   else (push out s).bind fun out => lz next r out
  else (push out s).bind fun out => lz next r out
def nW (next : Int → Option Int) (l : List Sv.Span) : Option (List Sv.Span) := (ltG l).bind fun _ => (hY cmpSp l).bind fun l => (aN l).bind fun _ => lz next l []
theorem ue {fn : FuncId} {next : Int → Option Int} (hg : ∀ {x r}, next x = some r → Has Tryz.prog fn [.int .i64 x] fun s => s = .int .i64 r) {l r : List Sv.Span} (hm : nW next l = some r) : aY Tryz.prog 114 [aQ l, .func (.func fn) [] []] fun s => s = aQ r := by
 refine ht aa Tryz.f114 ?_
 unfold nW at hm
 refine z ?_
 obtain ⟨hg1, hm⟩ := aj hm
 refine ⟨_, _, rfl, rfl, Nat.le_refl _, by omega, ?_⟩
 refine z ?_
 refine as_rep b6 ⟨_, _⟩ rfl (z ?_)
 refine ⟨by simp only [List.length_map, List.length_replicate], ?_⟩
 refine z ?_
 refine zt (z ?_)
 obtain ⟨v3, e3, hm⟩ := ae hm
 refine cG 1 (sortSp_ok cmpSp_ok e3) rfl rfl rfl rfl (z ?_)
 obtain ⟨hg4, hm⟩ := aj hm
 refine b0 6 2 rfl ?_
 refine lg (α := Nat × List Span × Nat) aa (fun (iw, s1, ts1) => (lz (next) (List.drop iw (v3)) s1 = some r, ⟨61, [(6, .own 2 ts1), (20, .int .i64 iw), (19, .int .i64 ↑v3.length), (18, .own 1 0), (4, .az), (1, .func (.func fn) [] [])]⟩, ⟨[(2, .row 2 (s1.map b6) ts1 false), (1, .row 2 (List.map b6 v3) 0 false), (0, aS)], 3, 0, [], []⟩, List.length (v3) - iw)) ⟨(0, _, (0)), hm⟩ ?_
 rintro ⟨i5, s1_5, ts1_5⟩ hq5
 dsimp only at hq5
 refine z ?_
 refine bkd (fun h6 => z ?_) (fun h6 => z ?_)
 obtain ⟨x6, ex6, ed6⟩ := au h6
 rw [ed6, lz] at hq5
 refine z ?_
 obtain ⟨hg7, hq5⟩ := aj hq5
 refine aK rfl ex6 (z ?_)
 refine bw ex6 (z ?_)
 refine dg aa [0,1,3,7,15,7,7,7,135,455,967,1991,4071,8191,16383] [] (z ?_)
 refine bkd (fun h8 => z ?_) (fun h8 => z ?_)
 rw [if_pos h8] at hq5
 obtain ⟨j9, x9, en9, ex9, hq5⟩ := aB hq5
 refine aK en9 ex9 (z ?_)
 refine bw ex9 (z ?_)
 obtain ⟨v10, e10, hq5⟩ := ae hq5
 refine ce (hg e10) (z ?_)
 refine bkd (fun h11 => z ?_) (fun h11 => z ?_)
 rw [if_pos h11] at hq5
 refine dg aa [0,0,2,0,0,16,56,120,248,0,512,2040,4095,8191,16383] [] (z ?_)
 obtain ⟨j12, x12, en12, ex12, hq5⟩ := aB hq5
 refine aK en12 ex12 (z ?_)
 refine bw ex12 (z ?_)
 obtain ⟨j13, x13, en13, ex13, hq5⟩ := bL hq5
 refine aK en13 ex13 (z ?_)
 refine bT _ ({ lo := x13.lo, hi := mx x12.hi x6.hi }) ex13 rfl (z ?_)
 exact bk ⟨(i5 + 1, _, (ts1_5)), hq5⟩
 rw [if_neg h11] at hq5
 obtain ⟨hg14, hq5⟩ := aD hq5
 refine z ?_
 refine aH (x6) rfl (z ?_)
 exact bk ⟨(i5 + 1, _, (ts1_5 + 1)), hq5⟩
 rw [if_neg h8] at hq5
 obtain ⟨hg15, hq5⟩ := aD hq5
 refine z ?_
 refine aH (x6) rfl (z ?_)
 exact bk ⟨(i5 + 1, _, (ts1_5 + 1)), hq5⟩
 rw [av h6, lz] at hq5
 cases hq5
 refine aR (z ?_)
 exact mt
def mkI : List Sv.Span → List Sv.Span → Option (List Sv.Span)
 | [], out => some out
 | x :: r, out => if mx x.lo (-100000000000) ≤ mn x.hi 100000000000 then (push out ⟨mx x.lo (-100000000000), mn x.hi 100000000000⟩).bind fun out => mkI r out else mkI r out
def stLo (n : Int) : Option Int := if n.tmod 10000 = 0 then (cX (n + 1)).bind fun _ => some (n + 1) else some n
def stHi (n : Int) : Option Int := if n.tmod 10000 = 0 then (cX (n - 1)).bind fun _ => some (n - 1) else some n
def mkF : List Sv.Span → List Sv.Span → Option (List Sv.Span)
 | [], out => some out
 | x :: r, out => (stLo (mx x.lo (-1000000000000000))).bind fun lo => (stHi (mn x.hi 1000000000000000)).bind fun hi => if lo ≤ hi then (push out ⟨lo, hi⟩).bind fun out => mkF r out else mkF r out
def gM (s : cK) : Option cK := (aN s.ints).bind fun _ => (mkI s.ints []).bind fun i => (aN s.bK).bind fun _ => (mkF s.bK []).bind fun f =>
 (nW whole i).bind fun i => (nW after f).bind fun f => some ⟨i, f⟩
theorem eg {s r : cK} (hm : gM s = some r) : aY Tryz.prog 77 [.agg (cw s)] fun v => v = .agg (cw r) := by
 refine ht aa Tryz.f77 ?_
 unfold gM at hm
 refine z ?_
 obtain ⟨hg1, hm⟩ := aj hm
 obtain ⟨v2, hv2, hm⟩ := ae hm
 refine b0 3 2 rfl ?_
 refine lg (α := Nat × List Span × Nat) aa (fun (iw, s1, ts1) => (mkI (List.drop iw (s.ints)) s1 = some v2, ⟨78, [(3, .own 3 ts1), (12, .int .i64 iw), (11, .int .i64 ↑s.ints.length), (10, aQ s.ints), (4, .az), (2, .ptr 2 0), (1, .ptr 1 0)]⟩, ⟨[(3, .row 2 (s1.map b6) ts1 false), (2, .cells [.az, .az]), (1, .cells (cw s)), (0, aS)], 4, 0, [], []⟩, List.length (s.ints) - iw)) ⟨(0, _, (0)), hv2⟩ ?_
 rintro ⟨i2, s1_2, ts1_2⟩ hq2
 dsimp only at hq2
 refine z ?_
 refine bkd (fun h3 => z ?_) (fun h3 => z ?_)
 obtain ⟨x3, ex3, ed3⟩ := au h3
 rw [ed3, mkI] at hq2
 refine z ?_
 refine a6 ex3 rfl (z ?_)
 refine bkd (fun h4 => z ?_) (fun h4 => z ?_)
 rw [if_pos h4] at hq2
 obtain ⟨hg5, hq2⟩ := aD hq2
 refine z ?_
 refine aH ({ lo := mx x3.lo (-100000000000), hi := mn x3.hi 100000000000 }) rfl (z ?_)
 exact bk ⟨(i2 + 1, _, (ts1_2 + 1)), hq2⟩
 rw [if_neg h4] at hq2
 exact bk ⟨(i2 + 1, _, (ts1_2)), hq2⟩
 rw [av h3, mkI] at hq2
 cases hq2
 refine z ?_
 obtain ⟨hg6, hm⟩ := aj hm
 refine a8 rfl rfl ?_
 obtain ⟨v7, hv7, hm⟩ := ae hm
 refine b0 4 2 rfl ?_
 refine lg (α := Nat × List Span × Nat) aa (fun (iw, s1, ts1) => (mkF (List.drop iw (s.bK)) s1 = some v7, ⟨78, [(4, .own 4 ts1), (36, .int .i64 iw), (35, .int .i64 ↑s.bK.length), (34, aQ s.bK), (3, .own 3 ts1_2), (2, .ptr 2 0)]⟩, ⟨[(4, .row 2 (s1.map b6) ts1 false), (3, .row 2 (List.map b6 v2) ts1_2 false), (2, .cells [.az, .az]), (1, .cells (cw s)), (0, aS)], 5, 0, [], []⟩, List.length (s.bK) - iw)) ⟨(0, _, (0)), hv7⟩ ?_
 rintro ⟨i7, s1_7, ts1_7⟩ hq7
 dsimp only at hq7
 refine z ?_
 refine bkd (fun h8 => z ?_) (fun h8 => z ?_)
 obtain ⟨x8, ex8, ed8⟩ := au h8
 rw [ed8, mkF] at hq7
 unfold stLo at hq7
 refine z ?_
 refine a6 ex8 rfl (z ?_)
 refine bkd (fun h9 => z ?_) (fun h9 => z ?_)
 rw [if_pos h9] at hq7
 rw [Option.bind_assoc] at hq7
 refine z ?_
 obtain ⟨hg10, hq7⟩ := aj hq7
 dsimp only [Option.bind_some] at hq7
 unfold stHi at hq7
 refine ⟨by simp only [InR, List.length_map, List.length_nil, List.length_cons, List.length_singleton, List.length_append]; omega, ?_⟩
 refine z ?_
 refine bkd (fun h12 => z ?_) (fun h12 => z ?_)
 rw [if_pos h12] at hq7
 rw [Option.bind_assoc] at hq7
 refine z ?_
 obtain ⟨hg13, hq7⟩ := aj hq7
 dsimp only [Option.bind_some] at hq7
 refine ⟨by simp only [InR, List.length_map, List.length_nil, List.length_cons, List.length_singleton, List.length_append]; omega, ?_⟩
 refine z ?_
 refine bkd (fun h14 => z ?_) (fun h14 => z ?_)
 rw [if_pos h14] at hq7
 obtain ⟨hg15, hq7⟩ := aD hq7
 refine z ?_
 refine aH ({ lo := mx x8.lo (-1000000000000000) + 1, hi := mn x8.hi 1000000000000000 - 1 }) rfl (z ?_)
 exact bk ⟨(i7 + 1, _, (ts1_7 + 1)), hq7⟩
 rw [if_neg h14] at hq7
 exact bk ⟨(i7 + 1, _, (ts1_7)), hq7⟩
 rw [if_neg h12] at hq7
 dsimp only [Option.bind_some] at hq7
 refine z ?_
 refine bkd (fun h16 => z ?_) (fun h16 => z ?_)
 rw [if_pos h16] at hq7
 obtain ⟨hg17, hq7⟩ := aD hq7
 refine z ?_
 refine aH ({ lo := mx x8.lo (-1000000000000000) + 1, hi := mn x8.hi 1000000000000000 }) rfl (z ?_)
 exact bk ⟨(i7 + 1, _, (ts1_7 + 1)), hq7⟩
 rw [if_neg h16] at hq7
 exact bk ⟨(i7 + 1, _, (ts1_7)), hq7⟩
 rw [if_neg h9] at hq7
 dsimp only [Option.bind_some] at hq7
 unfold stHi at hq7
 refine z ?_
 refine bkd (fun h18 => z ?_) (fun h18 => z ?_)
 rw [if_pos h18] at hq7
 rw [Option.bind_assoc] at hq7
 refine z ?_
 obtain ⟨hg19, hq7⟩ := aj hq7
 dsimp only [Option.bind_some] at hq7
 refine ⟨by simp only [InR, List.length_map, List.length_nil, List.length_cons, List.length_singleton, List.length_append]; omega, ?_⟩
 refine z ?_
 refine bkd (fun h20 => z ?_) (fun h20 => z ?_)
 rw [if_pos h20] at hq7
 obtain ⟨hg21, hq7⟩ := aD hq7
 refine z ?_
 refine aH ({ lo := mx x8.lo (-1000000000000000), hi := mn x8.hi 1000000000000000 - 1 }) rfl (z ?_)
 exact bk ⟨(i7 + 1, _, (ts1_7 + 1)), hq7⟩
 rw [if_neg h20] at hq7
 exact bk ⟨(i7 + 1, _, (ts1_7)), hq7⟩
 rw [if_neg h18] at hq7
 dsimp only [Option.bind_some] at hq7
 refine z ?_
 refine bkd (fun h22 => z ?_) (fun h22 => z ?_)
 rw [if_pos h22] at hq7
 obtain ⟨hg23, hq7⟩ := aD hq7
 refine z ?_
 refine aH ({ lo := mx x8.lo (-1000000000000000), hi := mn x8.hi 1000000000000000 }) rfl (z ?_)
 exact bk ⟨(i7 + 1, _, (ts1_7 + 1)), hq7⟩
 rw [if_neg h22] at hq7
 exact bk ⟨(i7 + 1, _, (ts1_7)), hq7⟩
 rw [av h8, mkF] at hq7
 cases hq7
 refine z ?_
 obtain ⟨v24, e24, hm⟩ := ae hm
 refine bq (ue wM e24) (z ?_)
 obtain ⟨v25, e25, hm⟩ := ae hm
 refine bq (ue zA e25) (z ?_)
 cases hm
 exact mst
abbrev spanEq (x y : Sv.Span) : Bool := decide (x.lo = y.lo) && (decide (x.hi = y.hi) && true)
def iU (b : List Sv.Span) : List Sv.Span → Int → Option Bool
 | [], _ => some true
 | x :: r, i => (atI b i).bind fun y => if spanEq x y then iU b r (i + 1) else some false
def gR (a b : List Sv.Span) : Option Bool :=
 if (a.length : Int) = b.length then (aN a).bind fun _ => iU b a 0 else some false
theorem iT {a b : List Sv.Span} {r : Bool} (hm : gR a b = some r) : Has Tryz.prog 158 [aQ a, aQ b] fun s => s = .bool r := by
 refine hs aa Tryz.f158 ?_
 unfold gR at hm
 refine z ?_
 refine bkn (fun h1 => z ?_) (fun h1 => z ?_)
 rw [if_neg h1] at hm
 cases hm
 exact fc
 rw [if_pos h1] at hm
 obtain ⟨hg2, hm⟩ := aj hm
 refine lg (α := Nat) aa (fun iw => (iU (b) (List.drop iw (a)) (iw : Int) = some r, ⟨26, [(13, .int .i64 iw), (12, .int .i64 ↑a.length), (4, .bool false), (0, aQ a), (1, aQ b)]⟩, ⟨[], 0, 0, [], []⟩, List.length (a) - iw)) ⟨(0), hm⟩ ?_
 intro i3 hq3
 dsimp only at hq3
 refine z ?_
 refine bkd (fun h4 => z ?_) (fun h4 => z ?_)
 obtain ⟨x4, ex4, ed4⟩ := au h4
 rw [ed4, iU] at hq3
 refine z ?_
 refine dg aa [0,0,3,7,0,0,48,112,255] [] (z ?_)
 refine a6 ex4 rfl (z ?_)
 obtain ⟨j5, x5, en5, ex5, hq3⟩ := aB hq3
 refine bf en5 ex5 rfl (z ?_)
 refine bkm (fun h6 => z ?_) (fun h6 => z ?_)
 rw [if_neg (nt h6)] at hq3
 cases hq3
 exact fc
 rw [if_pos h6] at hq3
 exact bk ⟨i3 + 1, hq3⟩
 rw [av h4, iU] at hq3
 cases hq3
 exact fc
def xr (a b : cK) : Option Bool := (gR a.ints b.ints).bind fun p => if p then gR a.bK b.bK else some false
theorem sameN_ok {a b : cK} {r : Bool} (hm : xr a b = some r) : Has Tryz.prog 201 [.agg (cw a), .agg (cw b)] fun s => s = .bool r := by
 refine hs aa Tryz.f201 ?_
 unfold xr at hm
 refine z ?_
 obtain ⟨v1, e1, hm⟩ := ae hm
 refine ce (iT e1) (z ?_)
 refine brk (fun h2 => z ?_) (fun h2 => z ?_)
 rw [if_pos h2] at hm
 replace hm := aG hm
 obtain ⟨v3, e3, hm⟩ := ae hm
 refine ce (iT e3) (z ?_)
 cases hm
 exact fc
 rw [if_neg (nt h2)] at hm
 cases hm
 exact fc
def qg (a : cK) : Option Bool := (gM a).bind fun b => xr a b
theorem validN_ok {a : cK} {r : Bool} (hm : qg a = some r) : aY Tryz.prog 164 [.agg (cw a)] fun s => s = .bool r := by
 refine ht aa Tryz.f164 ?_
 unfold qg at hm
 refine z ?_
 refine dg aa [0,0,2,7,15] [] (z ?_)
 obtain ⟨v1, e1, hm⟩ := ae hm
 refine ct (eg e1) (z ?_)
 replace hm := aG hm
 obtain ⟨v2, e2, hm⟩ := ae hm
 refine ce (sameN_ok e2) (z ?_)
 cases hm
 exact mst
def intsN : Option cK := some ⟨[⟨-100000000000, 100000000000⟩], []⟩
theorem intsN_ok {r : cK} (hm : intsN = some r) : Has Tryz.prog 211 [] fun s => s = .agg (cw r) := by
 refine hs aa Tryz.f211 ?_
 unfold intsN at hm
 refine z ?_
 cases hm
 refine cP (z ?_)
 first | exact rfl | exact ⟨rfl, rfl⟩
def allN : Option cK := intsN.bind fun s => some ⟨s.ints, [⟨-999999999999999, 999999999999999⟩]⟩
theorem allN_ok {r : cK} (hm : allN = some r) : Has Tryz.prog 178 [] fun s => s = .agg (cw r) := by
 refine hs aa Tryz.f178 ?_
 unfold allN at hm
 refine z ?_
 obtain ⟨v1, e1, hm⟩ := ae hm
 refine ce (intsN_ok e1) (z ?_)
 cases hm
 refine cP (z ?_)
 first | exact e2 | exact rfl
def oX (x : Sv.Span) : List Sv.Span → List Sv.Span → Option (List Sv.Span)
 | [], out => some out
 | y :: r, out => if mx x.lo y.lo ≤ mn x.hi y.hi then (push out ⟨mx x.lo y.lo, mn x.hi y.hi⟩).bind fun out => oX x r out else oX x r out
def comL (b : List Sv.Span) : List Sv.Span → List Sv.Span → Option (List Sv.Span)
 | [], out => some out
 | x :: r, out => (aN b).bind fun _ => (oX x b out).bind fun out => comL b r out
def kZ (a b : List Sv.Span) : Option (List Sv.Span) := (aN a).bind fun _ => comL b a []
theorem uB {a b r : List Sv.Span} (hm : kZ a b = some r) : Has Tryz.prog 207 [aQ a, aQ b] fun s => s = aQ r := by
 refine hs aa Tryz.f207 ?_
 unfold kZ at hm
 refine z ?_
 obtain ⟨hg1, hm⟩ := aj hm
 refine b0 5 2 rfl ?_
 refine lg (α := Nat × List Span × Nat) aa (fun (iw, s1, ts1) => (comL (b) (List.drop iw (a)) s1 = some r, ⟨46, [(5, .own 0 ts1), (13, .int .i64 iw), (12, .int .i64 ↑a.length), (11, aQ a), (4, .az), (1, aQ b)]⟩, ⟨[(0, .row 2 (s1.map b6) ts1 false)], 1, 0, [], []⟩, List.length (a) - iw)) ⟨(0, _, (0)), hm⟩ ?_
 rintro ⟨i2, s1_2, ts1_2⟩ hq2
 dsimp only at hq2
 refine z ?_
 refine bkd (fun h3 => z ?_) (fun h3 => z ?_)
 obtain ⟨x3, ex3, ed3⟩ := au h3
 rw [ed3, comL] at hq2
 refine z ?_
 obtain ⟨hg4, hq2⟩ := aj hq2
 refine a6 ex3 rfl (z ?_)
 obtain ⟨v5, hv5, hq2⟩ := ae hq2
 refine lg (α := Nat × List Span × Nat) aa (fun (iw, s1, ts1) => (oX (x3) (List.drop iw (b)) s1 = some v5, ⟨46, [(19, .int .i64 iw), (18, .int .i64 ↑b.length), (17, aQ b), (7, .ptr 1 0), (5, .own 0 ts1), (13, .int .i64 ↑i2), (12, .int .i64 ↑a.length), (11, aQ a), (4, .az), (1, aQ b)]⟩, ⟨[(1, .cells [.int .i64 x3.lo, .int .i64 x3.hi]), (0, .row 2 (s1.map b6) ts1 false)], 2, 0, [], []⟩, List.length (b) - iw)) ⟨(0, _, (ts1_2)), hv5⟩ ?_
 rintro ⟨i5, s1_5, ts1_5⟩ hq5
 dsimp only at hq5
 refine z ?_
 refine bkd (fun h6 => z ?_) (fun h6 => z ?_)
 obtain ⟨x6, ex6, ed6⟩ := au h6
 rw [ed6, oX] at hq5
 refine z ?_
 refine a6 ex6 rfl (z ?_)
 refine bkd (fun h7 => z ?_) (fun h7 => z ?_)
 rw [if_pos h7] at hq5
 obtain ⟨hg8, hq5⟩ := aD hq5
 refine z ?_
 refine aH ({ lo := mx x3.lo x6.lo, hi := mn x3.hi x6.hi }) rfl (z ?_)
 exact bk ⟨(i5 + 1, _, (ts1_5 + 1)), hq5⟩
 rw [if_neg h7] at hq5
 exact bk ⟨(i5 + 1, _, (ts1_5)), hq5⟩
 rw [av h6, oX] at hq5
 cases hq5
 refine z ?_
 exact bk ⟨(i2 + 1, _, (ts1_5)), hq2⟩
 rw [av h3, comL] at hq2
 cases hq2
 refine cP (z ?_)
 first | exact e2 | exact rfl
def andN (a b : cK) : Option cK := (gM a).bind fun x => (gM b).bind fun y => (kZ x.ints y.ints).bind fun i => (kZ x.bK y.bK).bind fun f => gM ⟨i, f⟩
theorem andN_ok {a b r : cK} (hm : andN a b = some r) : aY Tryz.prog 169 [.agg (cw a), .agg (cw b)] fun s => s = .agg (cw r) := by
 refine ht aa Tryz.f169 ?_
 unfold andN at hm
 refine z ?_
 refine dg aa [0,1,0,7,0,0,63,127] [] (z ?_)
 obtain ⟨v1, e1, hm⟩ := ae hm
 refine ct (eg e1) (z ?_)
 obtain ⟨v2, e2, hm⟩ := ae hm
 refine ct (eg e2) (z ?_)
 refine dg aa [0,1,0,4,15,0,32,0,128,511,1023,2047,4095] [] (z ?_)
 obtain ⟨v3, e3, hm⟩ := ae hm
 refine ce (uB e3) (z ?_)
 obtain ⟨v4, e4, hm⟩ := ae hm
 refine ce (uB e4) (z ?_)
 replace hm := aG hm
 obtain ⟨v5, e5, hm⟩ := ae hm
 refine ct (eg e5) (z ?_)
 cases hm
 exact mst
def orN (a b : cK) : Option cK := (jU a.ints b.ints).bind fun i => (jU a.bK b.bK).bind fun f => gM ⟨i, f⟩
theorem orN_ok {a b r : cK} (hm : orN a b = some r) : aY Tryz.prog 56 [.agg (cw a), .agg (cw b)] fun s => s = .agg (cw r) := by
 refine ht aa Tryz.f56 ?_
 unfold orN at hm
 refine z ?_
 refine dg aa [0,1,0,4,15,31,0,64,0,256,960,2047,4095,8191,16383] [] (z ?_)
 obtain ⟨v1, e1, hm⟩ := ae hm
 refine eA (uz e1) (z ?_)
 obtain ⟨v2, e2, hm⟩ := ae hm
 refine eA (uz e2) (z ?_)
 replace hm := aG hm
 obtain ⟨v3, e3, hm⟩ := ae hm
 refine ct (eg e3) (z ?_)
 cases hm
 exact mst
def yG : Option Unit := some ()
theorem gaps_ok {fn fp : FuncId} {l : List Sv.Span} {all : Sv.Span} {r : Unit} (hm : yG = some r) : Has Tryz.prog 180 [aQ l, .agg (b6 all), .func (.func fn) [] [], .func (.func fp) [] []] fun s => s = .func (.func 213) [] [.bA (b6 all) 0, .bA [aQ l] 0, .bA [.func (.func fp) [] []] 0, .bA [.func (.func fn) [] []] 0] := by
 refine hs aa Tryz.f180 ?_
 unfold yG at hm
 refine z ?_
 cases hm
 refine cP (z ?_)
 first | exact e2 | exact rfl
def notN (a : cK) : Option cK := (gM a).bind fun x => allN.bind fun al => (atI al.ints 0).bind fun ai => yG.bind fun _ => (uD whole back x.ints ai).bind fun i => (atI al.bK 0).bind fun af => yG.bind fun _ => (uD after before x.bK af).bind fun f => gM ⟨i, f⟩
theorem notN_ok {a r : cK} (hm : notN a = some r) : aY Tryz.prog 131 [.agg (cw a)] fun s => s = .agg (cw r) := by
 refine ht aa Tryz.f131 ?_
 unfold notN at hm
 refine z ?_
 obtain ⟨v1, e1, hm⟩ := ae hm
 refine ct (eg e1) (z ?_)
 obtain ⟨v2, e2, hm⟩ := ae hm
 refine ce (allN_ok e2) (z ?_)
 refine dg aa [0,1,0,4,12,28,63,127,0,256,0,1024,3072,7168,16383,32767,65535,131071,262143] [] (z ?_)
 obtain ⟨j3, x3, en3, ex3, hm⟩ := aB hm
 refine bf en3 ex3 rfl (z ?_)
 obtain ⟨v4, e4, hm⟩ := ae hm
 refine ce (gaps_ok e4) (z ?_)
 obtain ⟨v5, e5, hm⟩ := ae hm
 refine ce (coll_ok wM back_ok e5) (z ?_)
 obtain ⟨j6, x6, en6, ex6, hm⟩ := aB hm
 refine bf en6 ex6 rfl (z ?_)
 obtain ⟨v7, e7, hm⟩ := ae hm
 refine ce (gaps_ok e7) (z ?_)
 obtain ⟨v8, e8, hm⟩ := ae hm
 refine ce (coll_ok zA before_ok e8) (z ?_)
 replace hm := aG hm
 obtain ⟨v9, e9, hm⟩ := ae hm
 refine ct (eg e9) (z ?_)
 cases hm
 exact mst
def lP (a b : cK) : Option cK := (notN b).bind fun c => andN a c
theorem nQ {a b r : cK} (hm : lP a b = some r) : aY Tryz.prog 123 [.agg (cw a), .agg (cw b)] fun s => s = .agg (cw r) := by
 refine ht aa Tryz.f123 ?_
 unfold lP at hm
 refine z ?_
 refine dg aa [0,0,2,7,15] [] (z ?_)
 obtain ⟨v1, e1, hm⟩ := ae hm
 refine ct (notN_ok e1) (z ?_)
 replace hm := aG hm
 obtain ⟨v2, e2, hm⟩ := ae hm
 refine ct (andN_ok e2) (z ?_)
 cases hm
 exact mst
def nN (u v : Int) : Option Bool := (cX (0 - u)).bind fun _ => (cX (0 - v)).bind fun _ => if mx u (0 - u) < mx v (0 - v) then some true else if mx u (0 - u) = mx v (0 - v) then some (decide (u > v)) else some false
theorem nM {u v : Int} {r : Bool} (hm : nN u v = some r) : Has Tryz.prog 119 [.int .i64 u, .int .i64 v] fun s => s = .bool r := by
 refine hs aa Tryz.f119 ?_
 unfold nN at hm
 refine z ?_
 obtain ⟨hg1, hm⟩ := aj hm
 obtain ⟨hg2, hm⟩ := aj hm
 refine z ?_
 refine bkd (fun h3 => z ?_) (fun h3 => z ?_)
 rw [if_pos h3] at hm
 cases hm
 exact fc
 rw [if_neg h3] at hm
 refine bkd (fun h4 => z ?_) (fun h4 => z ?_)
 rw [if_pos h4] at hm
 cases hm
 exact fc
 rw [if_neg h4] at hm
 cases hm
 exact fc
def nearest (s : Sv.Span) (m : Int) : Option Int := if s.lo > 0 then some s.lo else if s.hi < 0 then some s.hi else some m
theorem qU {s : Sv.Span} {m r : Int} (hm : nearest s m = some r) : Has Tryz.prog 120 [.agg (b6 s), .int .i64 m] fun v => v = .int .i64 r := by
 refine hs aa Tryz.f120 ?_
 unfold nearest at hm
 refine z ?_
 refine bkd (fun h1 => z ?_) (fun h1 => z ?_)
 rw [if_pos h1] at hm
 cases hm
 exact fc
 rw [if_neg h1] at hm
 refine bkd (fun h2 => z ?_) (fun h2 => z ?_)
 rw [if_pos h2] at hm
 cases hm
 exact fc
 rw [if_neg h2] at hm
 cases hm
 exact fc
def take (u best : Int) (found : Bool) : Option (Int × Bool) := if found then (nN u best).bind fun c => if c then some (u, true) else some (best, found) else some (u, true)
def leL1 : List Sv.Span → Int → Bool → Option (Int × Bool)
 | [], best, found => some (best, found)
 | y :: r, best, found => (nearest y 0).bind fun n => (cX (n * 10000)).bind fun _ => (take (n * 10000) best found).bind fun p => leL1 r p.1 p.2
def leL2 : List Sv.Span → Int → Bool → Option (Int × Bool)
 | [], best, found => some (best, found)
 | y :: r, best, found => (nearest y 1).bind fun n => (take n best found).bind fun p => leL2 r p.1 p.2
def lT (s : cK) : Option (Int × Bool) := (gM s).bind fun x => (aN x.ints).bind fun _ => (leL1 x.ints 0 false).bind fun p => (aN x.bK).bind fun _ => leL2 x.bK p.1 p.2
theorem nU {s : cK} {r : Int × Bool} (hm : lT s = some r) : aY Tryz.prog 79 [.agg (cw s)] fun v => v = .tup [.int .i64 r.1, .bool r.2] := by
 refine ht aa Tryz.f79 ?_
 unfold lT at hm
 refine z ?_
 obtain ⟨v1, e1, hm⟩ := ae hm
 refine ct (eg e1) (z ?_)
 obtain ⟨hg2, hm⟩ := aj hm
 obtain ⟨v3, hv3, hm⟩ := ae hm
 refine lg (α := Nat × Int × Bool) aa (fun (iw, s1, s2) => (leL1 (List.drop iw (v1.ints)) s1 s2 = some v3, ⟨42, [(18, .int .i64 iw), (17, .int .i64 ↑v1.ints.length), (16, aQ v1.ints), (7, .func (.func 118) [] [.ptr 4 0, .ptr 3 0]), (6, .ptr 4 0), (5, .ptr 3 0), (4, .ptr 2 0), (3, .bool false), (2, .int .i64 0)]⟩, ⟨[(4, .cells [.bool s2]), (3, .cells [.int .i64 s1]), (2, .cells [aQ v1.ints, aQ v1.bK]), (1, .cells (cw s)), (0, aS)], 5, 0, [], []⟩, List.length (v1.ints) - iw)) ⟨(0, _, _), hv3⟩ ?_
 rintro ⟨i3, s1_3, s2_3⟩ hq3
 dsimp only at hq3
 refine z ?_
 refine bkd (fun h4 => z ?_) (fun h4 => z ?_)
 obtain ⟨x4, ex4, ed4⟩ := au h4
 rw [ed4, leL1] at hq3
 refine z ?_
 refine a6 ex4 rfl (z ?_)
 obtain ⟨v5, e5, hq3⟩ := ae hq3
 refine ce (qU e5) (z ?_)
 obtain ⟨hg6, hq3⟩ := aj hq3
 unfold take at hq3
 refine z ?_
 refine ci aa Tryz.f118 (z ?_)
 refine bkm (fun h8 => z ?_) (fun h8 => z ?_)
 rw [if_neg (nt h8)] at hq3
 dsimp only [Option.bind_some] at hq3
 refine z ?_
 refine ei (z ?_)
 exact bk ⟨(i3 + 1, _, _), hq3⟩
 rw [if_pos h8] at hq3
 rw [Option.bind_assoc] at hq3
 refine z ?_
 obtain ⟨v9, e9, hq3⟩ := ae hq3
 refine ce (nM e9) (z ?_)
 refine brk (fun h10 => z ?_) (fun h10 => z ?_)
 rw [if_pos h10] at hq3
 dsimp only [Option.bind_some] at hq3
 refine z ?_
 refine ei (z ?_)
 exact bk ⟨(i3 + 1, _, _), hq3⟩
 rw [if_neg (nt h10)] at hq3
 dsimp only [Option.bind_some] at hq3
 refine z ?_
 refine ei (z ?_)
 exact bk ⟨(i3 + 1, _, _), hq3⟩
 rw [av h4, leL1] at hq3
 cases hq3
 dsimp only at hm
 refine z ?_
 obtain ⟨hg11, hm⟩ := aj hm
 refine a8 rfl rfl ?_
 refine lg (α := Nat × Int × Bool) aa (fun (iw, s1, s2) => (leL2 (List.drop iw (v1.bK)) s1 s2 = some r, ⟨42, [(31, .int .i64 iw), (30, .int .i64 ↑v1.bK.length), (29, aQ v1.bK), (7, .func (.func 118) [] [.ptr 4 0, .ptr 3 0]), (6, .ptr 4 0), (5, .ptr 3 0), (3, .bool false), (2, .int .i64 0)]⟩, ⟨[(4, .cells [.bool s2]), (3, .cells [.int .i64 s1]), (2, .cells [aQ v1.ints, aQ v1.bK]), (1, .cells (cw s)), (0, aS)], 5, 0, [], []⟩, List.length (v1.bK) - iw)) ⟨(0, _, _), hm⟩ ?_
 rintro ⟨i12, s1_12, s2_12⟩ hq12
 dsimp only at hq12
 refine z ?_
 refine bkd (fun h13 => z ?_) (fun h13 => z ?_)
 obtain ⟨x13, ex13, ed13⟩ := au h13
 rw [ed13, leL2] at hq12
 refine z ?_
 refine a6 ex13 rfl (z ?_)
 obtain ⟨v14, e14, hq12⟩ := ae hq12
 refine ce (qU e14) ?_
 unfold take at hq12
 refine z ?_
 refine ci aa Tryz.f118 (z ?_)
 refine bkm (fun h15 => z ?_) (fun h15 => z ?_)
 rw [if_neg (nt h15)] at hq12
 dsimp only [Option.bind_some] at hq12
 refine z ?_
 refine ei (z ?_)
 exact bk ⟨(i12 + 1, _, _), hq12⟩
 rw [if_pos h15] at hq12
 rw [Option.bind_assoc] at hq12
 refine z ?_
 obtain ⟨v16, e16, hq12⟩ := ae hq12
 refine ce (nM e16) (z ?_)
 refine brk (fun h17 => z ?_) (fun h17 => z ?_)
 rw [if_pos h17] at hq12
 dsimp only [Option.bind_some] at hq12
 refine z ?_
 refine ei (z ?_)
 exact bk ⟨(i12 + 1, _, _), hq12⟩
 rw [if_neg (nt h17)] at hq12
 dsimp only [Option.bind_some] at hq12
 refine z ?_
 refine ei (z ?_)
 exact bk ⟨(i12 + 1, _, _), hq12⟩
 rw [av h13, leL2] at hq12
 refine dg aa [0,0,1,7] [] (z ?_)
 cases hq12
 exact mst
def cmpN (a b : cK) : Option Int := (lP a b).bind fun x => (lT x).bind fun p => (lP b a).bind fun y => (lT y).bind fun q =>
 if p.2 then if q.2 then (nN p.1 q.1).bind fun c => if c then some (-1) else some 1 else some (-1)
 else if q.2 then some 1 else some 0
theorem cmpN_ok {a b : cK} {r : Int} (hm : cmpN a b = some r) : aY Tryz.prog 196 [.agg (cw a), .agg (cw b)] fun s => s = .int .i64 r := by
 refine ht aa Tryz.f196 ?_
 unfold cmpN at hm
 refine z ?_
 obtain ⟨v1, e1, hm⟩ := ae hm
 refine ct (nQ e1) (z ?_)
 obtain ⟨v2, e2, hm⟩ := ae hm
 refine ct (nU e2) (z ?_)
 obtain ⟨v3, e3, hm⟩ := ae hm
 refine ct (nQ e3) (z ?_)
 obtain ⟨v4, e4, hm⟩ := ae hm
 refine ct (nU e4) (z ?_)
 refine bkm (fun h5 => z ?_) (fun h5 => z ?_)
 rw [if_neg (nt h5)] at hm
 refine bkm (fun h6 => z ?_) (fun h6 => z ?_)
 rw [if_neg (nt h6)] at hm
 cases hm
 exact mst
 rw [if_pos h6] at hm
 refine bmf h6 (z ?_)
 refine brf h5 (z ?_)
 cases hm
 exact mst
 rw [if_pos h5] at hm
 refine bkm (fun h7 => z ?_) (fun h7 => z ?_)
 rw [if_neg (nt h7)] at hm
 cases hm
 exact mst
 rw [if_pos h7] at hm
 refine brt h5 (z ?_)
 obtain ⟨v8, e8, hm⟩ := ae hm
 refine ce (nM e8) (z ?_)
 refine brk (fun h9 => z ?_) (fun h9 => z ?_)
 rw [if_pos h9] at hm
 cases hm
 exact mst
 rw [if_neg (nt h9)] at hm
 cases hm
 exact mst
end Go.Proofs.YtmjddpeookapaaaGreatDoor
