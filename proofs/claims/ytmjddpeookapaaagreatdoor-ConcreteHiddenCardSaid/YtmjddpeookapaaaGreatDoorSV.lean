/- For ConcreteHidden: functions of the program, walked beside Lean functions that say what they compute. -/
import Derived.Test.YtmjddpeookapaaaGreatDoorEn
import Derived.KernelRfl
import Derived.Test.YtmjddpeookapaaaGreatDoorSS
set_option linter.unusedVariables false
set_option linter.unusedSimpArgs false
set_option linter.unusedSectionVars false
namespace Go.Proofs.YtmjddpeookapaaaGreatDoor
open Sv
set_option maxRecDepth 100000
set_option maxHeartbeats 2000000
theorem insCls_ok {fn : FuncId} {cap : List SVal} (hc : aw cap = true) (hw : cg cap = cap) {cmp : Cls Va → Cls Va → Option Int} (hg : ∀ {x y r}, cmp x y = some r → aY Tryz.prog fn (.agg (ep x) :: .agg (ep y) :: cap) fun s => s = .int .i64 r) {l r : List (Cls Va)} {s : Nat} {n : Int} (hm : eV cmp 0 n (l.length + 1) l 1 = some r) :
  jr Tryz.prog 218 (.row 19 (l.map (cQ eVa)) s false) [.own 1 s, .int .i64 0, .int .i64 n, .func (.func fn) [] cap] fun v o => v = .tup [] ∧ o = .row 19 (r.map (cQ eVa)) s false := by
 refine df aa (fn := Tryz.f218) rfl (by simp only [bm, aJ, clR, cl]) (by simp only [nb, nbL, cz, b7, aW _ _ hc, Bool.and_self]; rfl) (z ?_)
 refine lg (α := Nat × List (Cls Va) × Int) aa (fun (nw, s1, s2) => (eV (cmp) (0) (n) nw s1 s2 = some r, ⟨53, [(8, .int .i64 s2), (0, .own 1 s), (1, .int .i64 0), (2, .int .i64 n), (3, .func (.func fn) [] cap)]⟩, ⟨[(0, aS), (1, .row 19 (s1.map (cQ eVa)) s false)], 2, 0, [], []⟩, nw)) ⟨(_, _, _), hm⟩ ?_
 rintro ⟨n1, s1_1, s2_1⟩ hq1
 dsimp only at hq1
 rcases n1 with _ | n1
 ·(unfold eV at hq1; cases hq1)
 unfold eV at hq1
 refine z ?_
 refine bkd (fun h2 => z ?_) (fun h2 => z ?_)
 ·rw [if_pos h2] at hq1
  refine a8 rfl rfl ?_
  obtain ⟨v3, hv3, hq1⟩ := ae hq1
  refine lg (α := Nat × List (Cls Va) × Int) aa (fun (nw, s1, s2) => (lk (cmp) (0) nw s1 s2 = some v3, ⟨53, [(9, .int .i64 s2), (8, .int .i64 s2_1), (0, .own 1 s), (1, .int .i64 0), (2, .int .i64 n), (3, .func (.func fn) [] cap)]⟩, ⟨[(0, aS), (1, .row 19 (s1.map (cQ eVa)) s false)], 2, 0, [], []⟩, nw)) ⟨(_, _, _), hv3⟩ ?_
  rintro ⟨n3, s1_3, s2_3⟩ hq3
  dsimp only at hq3
  rcases n3 with _ | n3
  ·(unfold lk at hq3; cases hq3)
  unfold lk at hq3
  refine z ?_
  refine dg aa [0,0,3,7,15,15,15,111,239,15,15,1039,3599,7695,16383,32767,65535] [] (z ?_)
  refine bkd (fun h4 => z ?_) (fun h4 => z ?_)
  ·rw [if_pos h4] at hq3
   obtain ⟨j5, x5, en5, ex5, hq3⟩ := aB hq3
   refine aK en5 ex5 (z ?_)
   refine mu (bY _) ex5 (z ?_)
   obtain ⟨hg6, hq3⟩ := aj hq3
   refine z ?_
   obtain ⟨j8, x8, en8, ex8, hq3⟩ := aB hq3
   refine aK en8 ex8 (z ?_)
   refine mu (bY _) ex8 (z ?_)
   obtain ⟨v9, e9, hq3⟩ := ae hq3
   refine gi (hg e9) (by (simp only [cg, iG, hw]; try rfl)) rfl (z ?_)
   refine bkd (fun h10 => z ?_) (fun h10 => z ?_)
   ·rw [if_pos h10] at hq3
    refine dg aa [0,0,0,0,8,0,0,64,224,480,0,0,3072,7168,16355,32739,65535,131071] [⟨17,0,0,[1]⟩,⟨15,0,0,[1]⟩] (z ?_)
    obtain ⟨j15, x15, en15, ex15, hq3⟩ := aB hq3
    refine aK en15 ex15 (z ?_)
    refine mu (bY _) ex15 (z ?_)
    obtain ⟨j16, x16, en16, ex16, hq3⟩ := aB hq3
    refine aK en16 ex16 (z ?_)
    refine mu (bY _) ex16 (z ?_)
    obtain ⟨j17, x17, en17, ex17, hq3⟩ := cF hq3
    refine aK en17 ex17 (z ?_)
    refine zQ _ (x15) (bY _) (bY _) ex17 rfl (z ?_)
    obtain ⟨j18, x18, en18, ex18, hq3⟩ := cF hq3
    refine aK en18 ex18 (z ?_)
    refine zQ _ (x16) (bY _) (bY _) ex18 rfl (z ?_)
    exact bk ⟨(n3, _, _), hq3⟩
   ·rw [if_neg h10] at hq3
    cases hq3
    refine z ?_
    obtain ⟨hg19, hq1⟩ := aj hq1
    refine z ?_
    exact bk ⟨(n1, _, _), hq1⟩
  ·rw [if_neg h4] at hq3
   cases hq3
   refine z ?_
   obtain ⟨hg20, hq1⟩ := aj hq1
   refine z ?_
   exact bk ⟨(n1, _, _), hq1⟩
 ·rw [if_neg h2] at hq1
  cases hq1
  exact mso
theorem pdqCls_ok {fn : FuncId} {cap : List SVal} (hc : aw cap = true) (hw : cg cap = cap) {cmp : Cls Va → Cls Va → Option Int} (hg : ∀ {x y r}, cmp x y = some r → aY Tryz.prog fn (.agg (ep x) :: .agg (ep y) :: cap) fun s => s = .int .i64 r) {l r : List (Cls Va)} {s : Nat} {n lim : Int} (h0 : 0 ≤ n) (h12 : n ≤ 12) (hm : eV cmp 0 n (l.length + 1) l 1 = some r) :
  jr Tryz.prog 186 (.row 19 (l.map (cQ eVa)) s false) [.own 1 s, .int .i64 0, .int .i64 n, .int .i64 lim, .func (.func fn) [] cap] fun v o => v = .tup [] ∧ o = .row 19 (r.map (cQ eVa)) s false := by
 refine df aa (fn := Tryz.f186) rfl (by simp only [bm, aJ, clR, cl]) (by simp only [nb, nbL, cz, b7, aW _ _ hc, Bool.and_self]; rfl) (z ?_)
 refine bd aa ?_
 refine z ?_
 have h1 : ((n - 0 : Int) ≤ 12) := by omega
 refine bdt h1 (z ?_)
 replace hm := aG hm
 obtain ⟨v2, e2, hm⟩ := ae hm
 refine cG 1 (insCls_ok hc hw hg e2) (by simp only [cg, iG, bV, ren, ta, hw, bC _ _ hc]; rfl) rfl rfl rfl (z ?_)
 cases hm
 exact mso
theorem sortCls_ok {fn : FuncId} {cap : List SVal} (hc : aw cap = true) (hw : cg cap = cap) {cmp : Cls Va → Cls Va → Option Int} (hg : ∀ {x y r}, cmp x y = some r → aY Tryz.prog fn (.agg (ep x) :: .agg (ep y) :: cap) fun s => s = .int .i64 r) {l r : List (Cls Va)} {s : Nat} (hm : hY cmp l = some r) :
  jr Tryz.prog 138 (.row 19 (l.map (cQ eVa)) s false) [.own 1 s, .func (.func fn) [] cap] fun v o => v = .tup [] ∧ o = .row 19 (r.map (cQ eVa)) s false := by
 refine df aa (fn := Tryz.f138) rfl (by simp only [bm, aJ, clR, cl]) (by simp only [nb, nbL, cz, b7, aW _ _ hc, Bool.and_self]; rfl) ?_
 unfold hY at hm
 obtain ⟨hg1, hm⟩ := aj hm
 by_cases h12 : (l.length : Int) ≤ 12
 ·rw [if_pos h12] at hm
  replace hm : (some ()).bind (fun _ => (rj l.length).bind fun k => (eV cmp 0 l.length (l.length + 1) l 1).bind fun l => some l) = some r := by
   rw [rj, if_pos ⟨by omega, h12⟩]
   simpa using hm
  dsimp only [Option.bind_some] at hm
  refine z ?_
  obtain ⟨v1, e1, hm⟩ := ae hm
  refine ce (pM e1) (z ?_)
  obtain ⟨v2, e2, hm⟩ := ae hm
  refine cG 1 (pdqCls_ok hc hw hg (by omega) h12 e2) (by simp only [cg, iG, bV, ren, ta, hw, bC _ _ hc]; rfl) rfl rfl rfl (z ?_)
  cases hm
  exact mso
 ·rw [if_neg h12] at hm; cases hm
theorem insLc_ok {fn : FuncId} {cap : List SVal} (hc : aw cap = true) (hw : cg cap = cap) {cmp : aT Va → aT Va → Option Int} (hg : ∀ {x y r}, cmp x y = some r → aY Tryz.prog fn (.agg (aO eVa x) :: .agg (aO eVa y) :: cap) fun s => s = .int .i64 r) {l r : List (aT Va)} {s : Nat} {n : Int} (hm : eV cmp 0 n (l.length + 1) l 1 = some r) :
  jr Tryz.prog 230 (.row 2 (l.map (aO eVa)) s false) [.own 1 s, .int .i64 0, .int .i64 n, .func (.func fn) [] cap] fun v o => v = .tup [] ∧ o = .row 2 (r.map (aO eVa)) s false := by
 refine df aa (fn := Tryz.f230) rfl (by simp only [bm, aJ, clR, cl]) (by simp only [nb, nbL, cz, b7, aW _ _ hc, Bool.and_self]; rfl) (z ?_)
 refine lg (α := Nat × List (aT Va) × Int) aa (fun (nw, s1, s2) => (eV (cmp) (0) (n) nw s1 s2 = some r, ⟨53, [(8, .int .i64 s2), (0, .own 1 s), (1, .int .i64 0), (2, .int .i64 n), (3, .func (.func fn) [] cap)]⟩, ⟨[(0, aS), (1, .row 2 (s1.map (aO eVa)) s false)], 2, 0, [], []⟩, nw)) ⟨(_, _, _), hm⟩ ?_
 rintro ⟨n1, s1_1, s2_1⟩ hq1
 dsimp only at hq1
 rcases n1 with _ | n1
 ·(unfold eV at hq1; cases hq1)
 unfold eV at hq1
 refine z ?_
 refine bkd (fun h2 => z ?_) (fun h2 => z ?_)
 ·rw [if_pos h2] at hq1
  refine a8 rfl rfl ?_
  obtain ⟨v3, hv3, hq1⟩ := ae hq1
  refine lg (α := Nat × List (aT Va) × Int) aa (fun (nw, s1, s2) => (lk (cmp) (0) nw s1 s2 = some v3, ⟨53, [(9, .int .i64 s2), (8, .int .i64 s2_1), (0, .own 1 s), (1, .int .i64 0), (2, .int .i64 n), (3, .func (.func fn) [] cap)]⟩, ⟨[(0, aS), (1, .row 2 (s1.map (aO eVa)) s false)], 2, 0, [], []⟩, nw)) ⟨(_, _, _), hv3⟩ ?_
  rintro ⟨n3, s1_3, s2_3⟩ hq3
  dsimp only at hq3
  rcases n3 with _ | n3
  ·(unfold lk at hq3; cases hq3)
  unfold lk at hq3
  refine z ?_
  refine dg aa [0,0,3,7,15,15,15,111,239,15,15,1039,3599,7695,16383,32767,65535] [] (z ?_)
  refine bkd (fun h4 => z ?_) (fun h4 => z ?_)
  ·rw [if_pos h4] at hq3
   obtain ⟨j5, x5, en5, ex5, hq3⟩ := aB hq3
   refine aK en5 ex5 (z ?_)
   refine bw ex5 (z ?_)
   obtain ⟨hg6, hq3⟩ := aj hq3
   refine z ?_
   obtain ⟨j8, x8, en8, ex8, hq3⟩ := aB hq3
   refine aK en8 ex8 (z ?_)
   refine bw ex8 (z ?_)
   obtain ⟨v9, e9, hq3⟩ := ae hq3
   refine gi (hg e9) (by (simp only [cg, iG, hw]; try rfl)) rfl (z ?_)
   refine bkd (fun h10 => z ?_) (fun h10 => z ?_)
   ·rw [if_pos h10] at hq3
    refine dg aa [0,0,0,0,8,0,0,64,224,480,0,0,3072,7168,16355,32739,65535,131071] [⟨17,0,0,[1]⟩,⟨15,0,0,[1]⟩] (z ?_)
    obtain ⟨j15, x15, en15, ex15, hq3⟩ := aB hq3
    refine aK en15 ex15 (z ?_)
    refine bw ex15 (z ?_)
    obtain ⟨j16, x16, en16, ex16, hq3⟩ := aB hq3
    refine aK en16 ex16 (z ?_)
    refine bw ex16 (z ?_)
    obtain ⟨j17, x17, en17, ex17, hq3⟩ := cF hq3
    refine aK en17 ex17 (z ?_)
    refine bT _ (x15) ex17 rfl (z ?_)
    obtain ⟨j18, x18, en18, ex18, hq3⟩ := cF hq3
    refine aK en18 ex18 (z ?_)
    refine bT _ (x16) ex18 rfl (z ?_)
    exact bk ⟨(n3, _, _), hq3⟩
   ·rw [if_neg h10] at hq3
    cases hq3
    refine z ?_
    obtain ⟨hg19, hq1⟩ := aj hq1
    refine z ?_
    exact bk ⟨(n1, _, _), hq1⟩
  ·rw [if_neg h4] at hq3
   cases hq3
   refine z ?_
   obtain ⟨hg20, hq1⟩ := aj hq1
   refine z ?_
   exact bk ⟨(n1, _, _), hq1⟩
 ·rw [if_neg h2] at hq1
  cases hq1
  exact mso
theorem pdqLc_ok {fn : FuncId} {cap : List SVal} (hc : aw cap = true) (hw : cg cap = cap) {cmp : aT Va → aT Va → Option Int} (hg : ∀ {x y r}, cmp x y = some r → aY Tryz.prog fn (.agg (aO eVa x) :: .agg (aO eVa y) :: cap) fun s => s = .int .i64 r) {l r : List (aT Va)} {s : Nat} {n lim : Int} (h0 : 0 ≤ n) (h12 : n ≤ 12) (hm : eV cmp 0 n (l.length + 1) l 1 = some r) :
  jr Tryz.prog 191 (.row 2 (l.map (aO eVa)) s false) [.own 1 s, .int .i64 0, .int .i64 n, .int .i64 lim, .func (.func fn) [] cap] fun v o => v = .tup [] ∧ o = .row 2 (r.map (aO eVa)) s false := by
 refine df aa (fn := Tryz.f191) rfl (by simp only [bm, aJ, clR, cl]) (by simp only [nb, nbL, cz, b7, aW _ _ hc, Bool.and_self]; rfl) (z ?_)
 refine bd aa ?_
 refine z ?_
 have h1 : ((n - 0 : Int) ≤ 12) := by omega
 refine bdt h1 (z ?_)
 replace hm := aG hm
 obtain ⟨v2, e2, hm⟩ := ae hm
 refine cG 1 (insLc_ok hc hw hg e2) (by simp only [cg, iG, bV, ren, ta, hw, bC _ _ hc]; rfl) rfl rfl rfl (z ?_)
 cases hm
 exact mso
theorem sortLc_ok {fn : FuncId} {cap : List SVal} (hc : aw cap = true) (hw : cg cap = cap) {cmp : aT Va → aT Va → Option Int} (hg : ∀ {x y r}, cmp x y = some r → aY Tryz.prog fn (.agg (aO eVa x) :: .agg (aO eVa y) :: cap) fun s => s = .int .i64 r) {l r : List (aT Va)} {s : Nat} (hm : hY cmp l = some r) :
  jr Tryz.prog 141 (.row 2 (l.map (aO eVa)) s false) [.own 1 s, .func (.func fn) [] cap] fun v o => v = .tup [] ∧ o = .row 2 (r.map (aO eVa)) s false := by
 refine df aa (fn := Tryz.f141) rfl (by simp only [bm, aJ, clR, cl]) (by simp only [nb, nbL, cz, b7, aW _ _ hc, Bool.and_self]; rfl) ?_
 unfold hY at hm
 obtain ⟨hg1, hm⟩ := aj hm
 by_cases h12 : (l.length : Int) ≤ 12
 ·rw [if_pos h12] at hm
  replace hm : (some ()).bind (fun _ => (rj l.length).bind fun k => (eV cmp 0 l.length (l.length + 1) l 1).bind fun l => some l) = some r := by
   rw [rj, if_pos ⟨by omega, h12⟩]
   simpa using hm
  dsimp only [Option.bind_some] at hm
  refine z ?_
  obtain ⟨v1, e1, hm⟩ := ae hm
  refine ce (pM e1) (z ?_)
  obtain ⟨v2, e2, hm⟩ := ae hm
  refine cG 1 (pdqLc_ok hc hw hg (by omega) h12 e2) (by simp only [cg, iG, bV, ren, ta, hw, bC _ _ hc]; rfl) rfl rfl rfl (z ?_)
  cases hm
  exact mso
 ·rw [if_neg h12] at hm; cases hm
theorem insSc_ok {fn : FuncId} {cap : List SVal} (hc : aw cap = true) (hw : cg cap = cap) {cmp : aI Va → aI Va → Option Int} (hg : ∀ {x y r}, cmp x y = some r → aY Tryz.prog fn (.agg (aF eVa x) :: .agg (aF eVa y) :: cap) fun s => s = .int .i64 r) {l r : List (aI Va)} {s : Nat} {n : Int} (hm : eV cmp 0 n (l.length + 1) l 1 = some r) :
  jr Tryz.prog 248 (.row 2 (l.map (aF eVa)) s false) [.own 1 s, .int .i64 0, .int .i64 n, .func (.func fn) [] cap] fun v o => v = .tup [] ∧ o = .row 2 (r.map (aF eVa)) s false := by
 refine df aa (fn := Tryz.f248) rfl (by simp only [bm, aJ, clR, cl]) (by simp only [nb, nbL, cz, b7, aW _ _ hc, Bool.and_self]; rfl) (z ?_)
 refine lg (α := Nat × List (aI Va) × Int) aa (fun (nw, s1, s2) => (eV (cmp) (0) (n) nw s1 s2 = some r, ⟨53, [(8, .int .i64 s2), (0, .own 1 s), (1, .int .i64 0), (2, .int .i64 n), (3, .func (.func fn) [] cap)]⟩, ⟨[(0, aS), (1, .row 2 (s1.map (aF eVa)) s false)], 2, 0, [], []⟩, nw)) ⟨(_, _, _), hm⟩ ?_
 rintro ⟨n1, s1_1, s2_1⟩ hq1
 dsimp only at hq1
 rcases n1 with _ | n1
 ·(unfold eV at hq1; cases hq1)
 unfold eV at hq1
 refine z ?_
 refine bkd (fun h2 => z ?_) (fun h2 => z ?_)
 ·rw [if_pos h2] at hq1
  refine a8 rfl rfl ?_
  obtain ⟨v3, hv3, hq1⟩ := ae hq1
  refine lg (α := Nat × List (aI Va) × Int) aa (fun (nw, s1, s2) => (lk (cmp) (0) nw s1 s2 = some v3, ⟨53, [(9, .int .i64 s2), (8, .int .i64 s2_1), (0, .own 1 s), (1, .int .i64 0), (2, .int .i64 n), (3, .func (.func fn) [] cap)]⟩, ⟨[(0, aS), (1, .row 2 (s1.map (aF eVa)) s false)], 2, 0, [], []⟩, nw)) ⟨(_, _, _), hv3⟩ ?_
  rintro ⟨n3, s1_3, s2_3⟩ hq3
  dsimp only at hq3
  rcases n3 with _ | n3
  ·(unfold lk at hq3; cases hq3)
  unfold lk at hq3
  refine z ?_
  refine dg aa [0,0,3,7,15,15,15,111,239,15,15,1039,3599,7695,16383,32767,65535] [] (z ?_)
  refine bkd (fun h4 => z ?_) (fun h4 => z ?_)
  ·rw [if_pos h4] at hq3
   obtain ⟨j5, x5, en5, ex5, hq3⟩ := aB hq3
   refine aK en5 ex5 (z ?_)
   refine bw ex5 (z ?_)
   obtain ⟨hg6, hq3⟩ := aj hq3
   refine z ?_
   obtain ⟨j8, x8, en8, ex8, hq3⟩ := aB hq3
   refine aK en8 ex8 (z ?_)
   refine bw ex8 (z ?_)
   obtain ⟨v9, e9, hq3⟩ := ae hq3
   refine gi (hg e9) (by (simp only [cg, iG, hw]; try rfl)) rfl (z ?_)
   refine bkd (fun h10 => z ?_) (fun h10 => z ?_)
   ·rw [if_pos h10] at hq3
    refine dg aa [0,0,0,0,8,0,0,64,224,480,0,0,3072,7168,16355,32739,65535,131071] [⟨17,0,0,[1]⟩,⟨15,0,0,[1]⟩] (z ?_)
    obtain ⟨j15, x15, en15, ex15, hq3⟩ := aB hq3
    refine aK en15 ex15 (z ?_)
    refine bw ex15 (z ?_)
    obtain ⟨j16, x16, en16, ex16, hq3⟩ := aB hq3
    refine aK en16 ex16 (z ?_)
    refine bw ex16 (z ?_)
    obtain ⟨j17, x17, en17, ex17, hq3⟩ := cF hq3
    refine aK en17 ex17 (z ?_)
    refine bT _ (x15) ex17 rfl (z ?_)
    obtain ⟨j18, x18, en18, ex18, hq3⟩ := cF hq3
    refine aK en18 ex18 (z ?_)
    refine bT _ (x16) ex18 rfl (z ?_)
    exact bk ⟨(n3, _, _), hq3⟩
   ·rw [if_neg h10] at hq3
    cases hq3
    refine z ?_
    obtain ⟨hg19, hq1⟩ := aj hq1
    refine z ?_
    exact bk ⟨(n1, _, _), hq1⟩
  ·rw [if_neg h4] at hq3
   cases hq3
   refine z ?_
   obtain ⟨hg20, hq1⟩ := aj hq1
   refine z ?_
   exact bk ⟨(n1, _, _), hq1⟩
 ·rw [if_neg h2] at hq1
  cases hq1
  exact mso
theorem pdqSc_ok {fn : FuncId} {cap : List SVal} (hc : aw cap = true) (hw : cg cap = cap) {cmp : aI Va → aI Va → Option Int} (hg : ∀ {x y r}, cmp x y = some r → aY Tryz.prog fn (.agg (aF eVa x) :: .agg (aF eVa y) :: cap) fun s => s = .int .i64 r) {l r : List (aI Va)} {s : Nat} {n lim : Int} (h0 : 0 ≤ n) (h12 : n ≤ 12) (hm : eV cmp 0 n (l.length + 1) l 1 = some r) :
  jr Tryz.prog 193 (.row 2 (l.map (aF eVa)) s false) [.own 1 s, .int .i64 0, .int .i64 n, .int .i64 lim, .func (.func fn) [] cap] fun v o => v = .tup [] ∧ o = .row 2 (r.map (aF eVa)) s false := by
 refine df aa (fn := Tryz.f193) rfl (by simp only [bm, aJ, clR, cl]) (by simp only [nb, nbL, cz, b7, aW _ _ hc, Bool.and_self]; rfl) (z ?_)
 refine bd aa ?_
 refine z ?_
 have h1 : ((n - 0 : Int) ≤ 12) := by omega
 refine bdt h1 (z ?_)
 replace hm := aG hm
 obtain ⟨v2, e2, hm⟩ := ae hm
 refine cG 1 (insSc_ok hc hw hg e2) (by simp only [cg, iG, bV, ren, ta, hw, bC _ _ hc]; rfl) rfl rfl rfl (z ?_)
 cases hm
 exact mso
theorem sortSc_ok {fn : FuncId} {cap : List SVal} (hc : aw cap = true) (hw : cg cap = cap) {cmp : aI Va → aI Va → Option Int} (hg : ∀ {x y r}, cmp x y = some r → aY Tryz.prog fn (.agg (aF eVa x) :: .agg (aF eVa y) :: cap) fun s => s = .int .i64 r) {l r : List (aI Va)} {s : Nat} (hm : hY cmp l = some r) :
  jr Tryz.prog 146 (.row 2 (l.map (aF eVa)) s false) [.own 1 s, .func (.func fn) [] cap] fun v o => v = .tup [] ∧ o = .row 2 (r.map (aF eVa)) s false := by
 refine df aa (fn := Tryz.f146) rfl (by simp only [bm, aJ, clR, cl]) (by simp only [nb, nbL, cz, b7, aW _ _ hc, Bool.and_self]; rfl) ?_
 unfold hY at hm
 obtain ⟨hg1, hm⟩ := aj hm
 by_cases h12 : (l.length : Int) ≤ 12
 ·rw [if_pos h12] at hm
  replace hm : (some ()).bind (fun _ => (rj l.length).bind fun k => (eV cmp 0 l.length (l.length + 1) l 1).bind fun l => some l) = some r := by
   rw [rj, if_pos ⟨by omega, h12⟩]
   simpa using hm
  dsimp only [Option.bind_some] at hm
  refine z ?_
  obtain ⟨v1, e1, hm⟩ := ae hm
  refine ce (pM e1) (z ?_)
  obtain ⟨v2, e2, hm⟩ := ae hm
  refine cG 1 (pdqSc_ok hc hw hg (by omega) h12 e2) (by simp only [cg, iG, bV, ren, ta, hw, bC _ _ hc]; rfl) rfl rfl rfl (z ?_)
  cases hm
  exact mso
 ·rw [if_neg h12] at hm; cases hm
end Go.Proofs.YtmjddpeookapaaaGreatDoor
