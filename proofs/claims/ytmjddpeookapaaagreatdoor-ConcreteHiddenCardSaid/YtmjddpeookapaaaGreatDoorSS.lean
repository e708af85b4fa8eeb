/- For ConcreteHidden: functions of the program, walked beside Lean functions that say what they compute. -/
import Derived.Test.YtmjddpeookapaaaGreatDoorEn
import Derived.KernelRfl
import Derived.Test.YtmjddpeookapaaaGreatDoorWE
import Derived.Test.YtmjddpeookapaaaGreatDoorSvG
set_option linter.unusedVariables false
set_option linter.unusedSimpArgs false
set_option linter.unusedSectionVars false
namespace Go.Proofs.YtmjddpeookapaaaGreatDoor
open Sv
set_option maxRecDepth 100000
set_option maxHeartbeats 2000000
section
variable {α : Type}
def lk (cmp : α → α → Option Int) (a : Int) : Nat → List α → Int → Option (List α)
 | 0, _, _ => none
 | n + 1, l, j => if j > a then (atI l j).bind fun x => (cX (j - 1)).bind fun _ => (atI l (j - 1)).bind fun y => (cmp x y).bind fun c => if c < 0 then
   (atI l (j - 1)).bind fun y => (atI l j).bind fun x => (iL l j y).bind fun l => (iL l (j - 1) x).bind fun l => lk cmp a n l (j - 1) else some l else some l
def eV (cmp : α → α → Option Int) (a b : Int) : Nat → List α → Int → Option (List α)
 | 0, _, _ => none
 | n + 1, l, i => if i < b then (lk cmp a (l.length + 1) l i).bind fun l => (cX (i + 1)).bind fun _ => eV cmp a b n l (i + 1) else some l
def hY (cmp : α → α → Option Int) (l : List α) : Option (List α) := (aN l).bind fun _ => if (l.length : Int) ≤ 12 then eV cmp 0 l.length (l.length + 1) l 1 else none
end
theorem insSp_ok {fn : FuncId} {cmp : Sv.Span → Sv.Span → Option Int} (hg : ∀ {x y r}, cmp x y = some r → Has Tryz.prog fn [.agg (b6 x), .agg (b6 y)] fun s => s = .int .i64 r) {l r : List Sv.Span} {s : Nat} {n : Int} (hm : eV cmp 0 n (l.length + 1) l 1 = some r) :
  jr Tryz.prog 256 (.row 2 (l.map b6) s false) [.own 1 s, .int .i64 0, .int .i64 n, .func (.func fn) [] []] fun v o => v = .tup [] ∧ o = .row 2 (r.map b6) s false := by
 refine df aa (fn := Tryz.f256) rfl (by simp only [bm, aJ, clR, cl]) (by simp only [nb, nbL, cz, b7, Bool.and_self]; rfl) (z ?_)
 refine lg (α := Nat × List Span × Int) aa (fun (nw, s1, s2) => (eV (cmp) (0) (n) nw s1 s2 = some r, ⟨53, [(8, .int .i64 s2), (0, .own 1 s), (1, .int .i64 0), (2, .int .i64 n), (3, .func (.func fn) [] [])]⟩, ⟨[(0, aS), (1, .row 2 (s1.map b6) s false)], 2, 0, [], []⟩, nw)) ⟨(_, _, _), hm⟩ ?_
 rintro ⟨n1, s1_1, s2_1⟩ hq1
 dsimp only at hq1
 rcases n1 with _ | n1
 ·(unfold eV at hq1; cases hq1)
 unfold eV at hq1
 refine z ?_
 refine bkd (fun h2 => z ?_) (fun h2 => z ?_)
 ·rw [if_pos h2] at hq1
  refine a8 rfl rfl ?_
  obtain ⟨v3, hv3, hq1⟩ := ae hq1
  refine lg (α := Nat × List Span × Int) aa (fun (nw, s1, s2) => (lk (cmp) (0) nw s1 s2 = some v3, ⟨53, [(9, .int .i64 s2), (8, .int .i64 s2_1), (0, .own 1 s), (1, .int .i64 0), (2, .int .i64 n), (3, .func (.func fn) [] [])]⟩, ⟨[(0, aS), (1, .row 2 (s1.map b6) s false)], 2, 0, [], []⟩, nw)) ⟨(_, _, _), hv3⟩ ?_
  rintro ⟨n3, s1_3, s2_3⟩ hq3
  dsimp only at hq3
  rcases n3 with _ | n3
  ·(unfold lk at hq3; cases hq3)
  unfold lk at hq3
  refine z ?_
  refine dg aa [0,0,3,7,15,15,15,111,239,15,15,1039,3599,7695,16383,32767,65535] [] (z ?_)
  refine bkd (fun h4 => z ?_) (fun h4 => z ?_)
  ·rw [if_pos h4] at hq3
   obtain ⟨j5, x5, en5, ex5, hq3⟩ := aB hq3
   refine aK en5 ex5 (z ?_)
   refine bw ex5 (z ?_)
   obtain ⟨hg6, hq3⟩ := aj hq3
   refine z ?_
   obtain ⟨j8, x8, en8, ex8, hq3⟩ := aB hq3
   refine aK en8 ex8 (z ?_)
   refine bw ex8 (z ?_)
   obtain ⟨v9, e9, hq3⟩ := ae hq3
   refine ce (hg e9) (z ?_)
   refine bkd (fun h10 => z ?_) (fun h10 => z ?_)
   ·rw [if_pos h10] at hq3
    refine dg aa [0,0,0,0,8,0,0,64,224,480,0,0,3072,7168,16355,32739,65535,131071] [⟨17,0,0,[1]⟩,⟨15,0,0,[1]⟩] (z ?_)
    obtain ⟨j15, x15, en15, ex15, hq3⟩ := aB hq3
    refine aK en15 ex15 (z ?_)
    refine bw ex15 (z ?_)
    obtain ⟨j16, x16, en16, ex16, hq3⟩ := aB hq3
    refine aK en16 ex16 (z ?_)
    refine bw ex16 (z ?_)
    obtain ⟨j17, x17, en17, ex17, hq3⟩ := cF hq3
    refine aK en17 ex17 (z ?_)
    refine bT _ (x15) ex17 rfl (z ?_)
    obtain ⟨j18, x18, en18, ex18, hq3⟩ := cF hq3
    refine aK en18 ex18 (z ?_)
    refine bT _ (x16) ex18 rfl (z ?_)
    exact bk ⟨(n3, _, _), hq3⟩
   ·rw [if_neg h10] at hq3
    cases hq3
    refine z ?_
    obtain ⟨hg19, hq1⟩ := aj hq1
    refine z ?_
    exact bk ⟨(n1, _, _), hq1⟩
  ·rw [if_neg h4] at hq3
   cases hq3
   refine z ?_
   obtain ⟨hg20, hq1⟩ := aj hq1
   refine z ?_
   exact bk ⟨(n1, _, _), hq1⟩
 ·rw [if_neg h2] at hq1
  cases hq1
  exact mso
theorem pdqSp_ok {fn : FuncId} {cmp : Sv.Span → Sv.Span → Option Int} (hg : ∀ {x y r}, cmp x y = some r → Has Tryz.prog fn [.agg (b6 x), .agg (b6 y)] fun s => s = .int .i64 r) {l r : List Sv.Span} {s : Nat} {n lim : Int} (h0 : 0 ≤ n) (h12 : n ≤ 12) (hm : eV cmp 0 n (l.length + 1) l 1 = some r) :
  jr Tryz.prog 202 (.row 2 (l.map b6) s false) [.own 1 s, .int .i64 0, .int .i64 n, .int .i64 lim, .func (.func fn) [] []] fun v o => v = .tup [] ∧ o = .row 2 (r.map b6) s false := by
 refine df aa (fn := Tryz.f202) rfl (by simp only [bm, aJ, clR, cl]) (by simp only [nb, nbL, cz, b7, Bool.and_self]; rfl) (z ?_)
 refine bd aa ?_
 refine z ?_
 have h1 : ((n - 0 : Int) ≤ 12) := by omega
 refine bdt h1 (z ?_)
 replace hm := aG hm
 obtain ⟨v2, e2, hm⟩ := ae hm
 refine cG 1 (insSp_ok hg e2) rfl rfl rfl rfl (z ?_)
 cases hm
 exact mso
def rj (n : Int) : Option Int := if 0 ≤ n ∧ n ≤ 12 then some (([0, 1, 2, 2, 3, 3, 3, 3, 4, 4, 4, 4, 4] : List Int).getD n.toNat 0) else none
theorem len64_ok {n r : Int} (hm : rj n = some r) : Has Tryz.prog 227 [.int .u64 n] fun s => s = .int .i64 r := by
 have h : n = 0 ∨ n = 1 ∨ n = 2 ∨ n = 3 ∨ n = 4 ∨ n = 5 ∨ n = 6 ∨ n = 7 ∨ n = 8 ∨ n = 9 ∨ n = 10 ∨ n = 11 ∨ n = 12 := by
  unfold rj at hm
  by_cases h : 0 ≤ n ∧ n ≤ 12
  ·omega
  ·rw [if_neg h] at hm; cases hm
 rcases h with rfl | rfl | rfl | rfl | rfl | rfl | rfl | rfl | rfl | rfl | rfl | rfl | rfl
 ·replace hm : some (0 : Int) = some r := hm
  refine hs aa Tryz.f227 (z ?_)
  refine ⟨0, 0, rfl, rfl, ?_⟩
  refine z ?_
  refine ⟨⟨by have := UInt8.toNat_lt (0); omega, by have := UInt8.toNat_lt (0); omega⟩, ?_⟩
  refine z ?_
  refine ⟨⟨by have := UInt8.toNat_lt (0); omega, by have := UInt8.toNat_lt (0); omega⟩, ?_⟩
  refine z ?_
  cases hm
  exact fc
 ·replace hm : some (1 : Int) = some r := hm
  refine hs aa Tryz.f227 (z ?_)
  refine ⟨1, 1, rfl, rfl, ?_⟩
  refine z ?_
  refine ⟨⟨by have := UInt8.toNat_lt (1); omega, by have := UInt8.toNat_lt (1); omega⟩, ?_⟩
  refine z ?_
  refine ⟨⟨by have := UInt8.toNat_lt (1); omega, by have := UInt8.toNat_lt (1); omega⟩, ?_⟩
  refine z ?_
  cases hm
  exact fc
 ·replace hm : some (2 : Int) = some r := hm
  refine hs aa Tryz.f227 (z ?_)
  refine ⟨2, 2, rfl, rfl, ?_⟩
  refine z ?_
  refine ⟨⟨by have := UInt8.toNat_lt (2); omega, by have := UInt8.toNat_lt (2); omega⟩, ?_⟩
  refine z ?_
  refine ⟨⟨by have := UInt8.toNat_lt (2); omega, by have := UInt8.toNat_lt (2); omega⟩, ?_⟩
  refine z ?_
  cases hm
  exact fc
 ·replace hm : some (2 : Int) = some r := hm
  refine hs aa Tryz.f227 (z ?_)
  refine ⟨3, 2, rfl, rfl, ?_⟩
  refine z ?_
  refine ⟨⟨by have := UInt8.toNat_lt (2); omega, by have := UInt8.toNat_lt (2); omega⟩, ?_⟩
  refine z ?_
  refine ⟨⟨by have := UInt8.toNat_lt (2); omega, by have := UInt8.toNat_lt (2); omega⟩, ?_⟩
  refine z ?_
  cases hm
  exact fc
 ·replace hm : some (3 : Int) = some r := hm
  refine hs aa Tryz.f227 (z ?_)
  refine ⟨4, 3, rfl, rfl, ?_⟩
  refine z ?_
  refine ⟨⟨by have := UInt8.toNat_lt (3); omega, by have := UInt8.toNat_lt (3); omega⟩, ?_⟩
  refine z ?_
  refine ⟨⟨by have := UInt8.toNat_lt (3); omega, by have := UInt8.toNat_lt (3); omega⟩, ?_⟩
  refine z ?_
  cases hm
  exact fc
 ·replace hm : some (3 : Int) = some r := hm
  refine hs aa Tryz.f227 (z ?_)
  refine ⟨5, 3, rfl, rfl, ?_⟩
  refine z ?_
  refine ⟨⟨by have := UInt8.toNat_lt (3); omega, by have := UInt8.toNat_lt (3); omega⟩, ?_⟩
  refine z ?_
  refine ⟨⟨by have := UInt8.toNat_lt (3); omega, by have := UInt8.toNat_lt (3); omega⟩, ?_⟩
  refine z ?_
  cases hm
  exact fc
 ·replace hm : some (3 : Int) = some r := hm
  refine hs aa Tryz.f227 (z ?_)
  refine ⟨6, 3, rfl, rfl, ?_⟩
  refine z ?_
  refine ⟨⟨by have := UInt8.toNat_lt (3); omega, by have := UInt8.toNat_lt (3); omega⟩, ?_⟩
  refine z ?_
  refine ⟨⟨by have := UInt8.toNat_lt (3); omega, by have := UInt8.toNat_lt (3); omega⟩, ?_⟩
  refine z ?_
  cases hm
  exact fc
 ·replace hm : some (3 : Int) = some r := hm
  refine hs aa Tryz.f227 (z ?_)
  refine ⟨7, 3, rfl, rfl, ?_⟩
  refine z ?_
  refine ⟨⟨by have := UInt8.toNat_lt (3); omega, by have := UInt8.toNat_lt (3); omega⟩, ?_⟩
  refine z ?_
  refine ⟨⟨by have := UInt8.toNat_lt (3); omega, by have := UInt8.toNat_lt (3); omega⟩, ?_⟩
  refine z ?_
  cases hm
  exact fc
 ·replace hm : some (4 : Int) = some r := hm
  refine hs aa Tryz.f227 (z ?_)
  refine ⟨8, 4, rfl, rfl, ?_⟩
  refine z ?_
  refine ⟨⟨by have := UInt8.toNat_lt (4); omega, by have := UInt8.toNat_lt (4); omega⟩, ?_⟩
  refine z ?_
  refine ⟨⟨by have := UInt8.toNat_lt (4); omega, by have := UInt8.toNat_lt (4); omega⟩, ?_⟩
  refine z ?_
  cases hm
  exact fc
 ·replace hm : some (4 : Int) = some r := hm
  refine hs aa Tryz.f227 (z ?_)
  refine ⟨9, 4, rfl, rfl, ?_⟩
  refine z ?_
  refine ⟨⟨by have := UInt8.toNat_lt (4); omega, by have := UInt8.toNat_lt (4); omega⟩, ?_⟩
  refine z ?_
  refine ⟨⟨by have := UInt8.toNat_lt (4); omega, by have := UInt8.toNat_lt (4); omega⟩, ?_⟩
  refine z ?_
  cases hm
  exact fc
 ·replace hm : some (4 : Int) = some r := hm
  refine hs aa Tryz.f227 (z ?_)
  refine ⟨10, 4, rfl, rfl, ?_⟩
  refine z ?_
  refine ⟨⟨by have := UInt8.toNat_lt (4); omega, by have := UInt8.toNat_lt (4); omega⟩, ?_⟩
  refine z ?_
  refine ⟨⟨by have := UInt8.toNat_lt (4); omega, by have := UInt8.toNat_lt (4); omega⟩, ?_⟩
  refine z ?_
  cases hm
  exact fc
 ·replace hm : some (4 : Int) = some r := hm
  refine hs aa Tryz.f227 (z ?_)
  refine ⟨11, 4, rfl, rfl, ?_⟩
  refine z ?_
  refine ⟨⟨by have := UInt8.toNat_lt (4); omega, by have := UInt8.toNat_lt (4); omega⟩, ?_⟩
  refine z ?_
  refine ⟨⟨by have := UInt8.toNat_lt (4); omega, by have := UInt8.toNat_lt (4); omega⟩, ?_⟩
  refine z ?_
  cases hm
  exact fc
 ·replace hm : some (4 : Int) = some r := hm
  refine hs aa Tryz.f227 (z ?_)
  refine ⟨12, 4, rfl, rfl, ?_⟩
  refine z ?_
  refine ⟨⟨by have := UInt8.toNat_lt (4); omega, by have := UInt8.toNat_lt (4); omega⟩, ?_⟩
  refine z ?_
  refine ⟨⟨by have := UInt8.toNat_lt (4); omega, by have := UInt8.toNat_lt (4); omega⟩, ?_⟩
  refine z ?_
  cases hm
  exact fc
theorem pM {n r : Int} (hm : rj n = some r) : Has Tryz.prog 187 [.int .u64 n] fun s => s = .int .i64 r := by
 refine hs aa Tryz.f187 (z ?_)
 replace hm := aG hm
 obtain ⟨v1, e1, hm⟩ := ae hm
 refine ce (len64_ok e1) (z ?_)
 cases hm
 exact fc
theorem sortSp_ok {fn : FuncId} {cmp : Sv.Span → Sv.Span → Option Int} (hg : ∀ {x y r}, cmp x y = some r → Has Tryz.prog fn [.agg (b6 x), .agg (b6 y)] fun s => s = .int .i64 r) {l r : List Sv.Span} {s : Nat} (hm : hY cmp l = some r) :
  jr Tryz.prog 165 (.row 2 (l.map b6) s false) [.own 1 s, .func (.func fn) [] []] fun v o => v = .tup [] ∧ o = .row 2 (r.map b6) s false := by
 refine df aa (fn := Tryz.f165) rfl (by simp only [bm, aJ, clR, cl]) (by simp only [nb, nbL, cz, b7, Bool.and_self]; rfl) ?_
 unfold hY at hm
 obtain ⟨hg1, hm⟩ := aj hm
 by_cases h12 : (l.length : Int) ≤ 12
 ·rw [if_pos h12] at hm
  replace hm : (some ()).bind (fun _ => (rj l.length).bind fun k => (eV cmp 0 l.length (l.length + 1) l 1).bind fun l => some l) = some r := by
   rw [rj, if_pos ⟨by omega, h12⟩]
   simpa using hm
  dsimp only [Option.bind_some] at hm
  refine z ?_
  obtain ⟨v1, e1, hm⟩ := ae hm
  refine ce (pM e1) (z ?_)
  obtain ⟨v2, e2, hm⟩ := ae hm
  refine cG 1 (pdqSp_ok hg (by omega) h12 e2) rfl rfl rfl rfl (z ?_)
  cases hm
  exact mso
 ·rw [if_neg h12] at hm; cases hm
end Go.Proofs.YtmjddpeookapaaaGreatDoor
