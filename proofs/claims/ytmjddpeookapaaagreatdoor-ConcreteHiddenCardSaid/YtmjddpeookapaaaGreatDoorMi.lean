/- For ConcreteHidden: functions of the program, walked beside Lean functions that say what they compute. -/
import Derived.Test.YtmjddpeookapaaaGreatDoorEn
import Derived.KernelRfl
import Derived.Test.YtmjddpeookapaaaGreatDoorMh
set_option linter.unusedVariables false
set_option linter.unusedSimpArgs false
set_option linter.unusedSectionVars false
namespace Go.Proofs.YtmjddpeookapaaaGreatDoor
open Sv
set_option maxRecDepth 100000
set_option maxHeartbeats 2000000
def thn (c k : Option Int) : Option Int := c.bind fun c => if c = 0 then k else some c
def qe (a b : Bool) : Option Int := if a == b then some 0 else if a then some (-1) else some 1
theorem wX {a b : Bool} {r : Int} (hm : qe a b = some r) : Has Tryz.prog 240 [.bool a, .bool b] fun s => s = .int .i64 r := by
 refine hs aa Tryz.f240 ?_
 unfold qe at hm
 refine z ?_
 refine brk (fun h1 => z ?_) (fun h1 => z ?_)
 rw [if_pos h1] at hm
 cases hm
 exact fc
 rw [if_neg (nt h1)] at hm
 refine brk (fun h2 => z ?_) (fun h2 => z ?_)
 rw [if_pos h2] at hm
 cases hm
 exact fc
 rw [if_neg (nt h2)] at hm
 cases hm
 exact fc
section
variable {α : Type}
def eP (g : α → α → Option Int) (b : List α) (n : Nat) : List α → Int → Option Int
 | [], _ => (aN b).bind fun _ => if (n : Int) < b.length then some (-1) else some 0
 | x :: r, i => (aN b).bind fun _ => if i ≥ (b.length : Int) then some 1 else (atI b i).bind fun y => (g x y).bind fun c => if c = 0 then eP g b n r (i + 1) else some c
def eh (g : α → α → Option Int) (a b : List α) : Option Int := (aN a).bind fun _ => eP g b a.length a 0
end
theorem cfL_ok {fn : FuncId} {g : (aT Va) → (aT Va) → Option Int} (hg : ∀ {x y r}, g x y = some r → aY Tryz.prog fn [.agg (aO eVa x), .agg (aO eVa y)] fun s => s = .int .i64 r) {a b : List (aT Va)} {r : Int} (hm : eh g a b = some r) : aY Tryz.prog 243 [.lst false (a.map (aO eVa)), .lst false (b.map (aO eVa)), .func (.func fn) [] []] fun s => s = .int .i64 r := by
 refine ht aa Tryz.f243 ?_
 unfold eh at hm
 refine z ?_
 obtain ⟨hg1, hm⟩ := aj hm
 refine lg (α := Nat) aa (fun iw => (eP (g) (b) (a.length) (List.drop iw (a)) (iw : Int) = some r, ⟨39, [(13, .int .i64 iw), (12, .int .i64 ↑a.length), (11, .lst false (List.map (aO eVa) a)), (6, .int .i64 0), (0, .lst false (List.map (aO eVa) a)), (1, .lst false (List.map (aO eVa) b)), (2, .func (.func fn) [] [])]⟩, ⟨[(0, aS)], 1, 0, [], []⟩, List.length (a) - iw)) ⟨(0), hm⟩ ?_
 intro i2 hq2
 dsimp only at hq2
 refine z ?_
 refine bkd (fun h3 => z ?_) (fun h3 => z ?_)
 obtain ⟨x3, ex3, ed3⟩ := au h3
 rw [ed3, eP] at hq2
 refine z ?_
 obtain ⟨hg4, hq2⟩ := aj hq2
 refine a6 ex3 rfl (z ?_)
 refine bkd (fun h5 => z ?_) (fun h5 => z ?_)
 rw [if_pos h5] at hq2
 cases hq2
 exact mst
 rw [if_neg h5] at hq2
 obtain ⟨j6, x6, en6, ex6, hq2⟩ := aB hq2
 refine bf en6 ex6 rfl (z ?_)
 obtain ⟨v7, e7, hq2⟩ := ae hq2
 refine ct (hg e7) (z ?_)
 refine bkn (fun h8 => z ?_) (fun h8 => z ?_)
 rw [if_neg h8] at hq2
 cases hq2
 exact mst
 rw [if_pos h8] at hq2
 exact bk ⟨i2 + 1, hq2⟩
 rw [av h3, eP] at hq2
 obtain ⟨hg9, hq2⟩ := aj hq2
 refine bkd (fun h10 => z ?_) (fun h10 => z ?_)
 rw [if_pos h10] at hq2
 cases hq2
 exact mst
 rw [if_neg h10] at hq2
 cases hq2
 exact mst
theorem cfS_ok {fn : FuncId} {g : (aI Va) → (aI Va) → Option Int} (hg : ∀ {x y r}, g x y = some r → aY Tryz.prog fn [.agg (aF eVa x), .agg (aF eVa y)] fun s => s = .int .i64 r) {a b : List (aI Va)} {r : Int} (hm : eh g a b = some r) : aY Tryz.prog 246 [.lst false (a.map (aF eVa)), .lst false (b.map (aF eVa)), .func (.func fn) [] []] fun s => s = .int .i64 r := by
 refine ht aa Tryz.f246 ?_
 unfold eh at hm
 refine z ?_
 obtain ⟨hg1, hm⟩ := aj hm
 refine lg (α := Nat) aa (fun iw => (eP (g) (b) (a.length) (List.drop iw (a)) (iw : Int) = some r, ⟨39, [(13, .int .i64 iw), (12, .int .i64 ↑a.length), (11, .lst false (List.map (aF eVa) a)), (6, .int .i64 0), (0, .lst false (List.map (aF eVa) a)), (1, .lst false (List.map (aF eVa) b)), (2, .func (.func fn) [] [])]⟩, ⟨[(0, aS)], 1, 0, [], []⟩, List.length (a) - iw)) ⟨(0), hm⟩ ?_
 intro i2 hq2
 dsimp only at hq2
 refine z ?_
 refine bkd (fun h3 => z ?_) (fun h3 => z ?_)
 obtain ⟨x3, ex3, ed3⟩ := au h3
 rw [ed3, eP] at hq2
 refine z ?_
 obtain ⟨hg4, hq2⟩ := aj hq2
 refine a6 ex3 rfl (z ?_)
 refine bkd (fun h5 => z ?_) (fun h5 => z ?_)
 rw [if_pos h5] at hq2
 cases hq2
 exact mst
 rw [if_neg h5] at hq2
 obtain ⟨j6, x6, en6, ex6, hq2⟩ := aB hq2
 refine bf en6 ex6 rfl (z ?_)
 obtain ⟨v7, e7, hq2⟩ := ae hq2
 refine ct (hg e7) (z ?_)
 refine bkn (fun h8 => z ?_) (fun h8 => z ?_)
 rw [if_neg h8] at hq2
 cases hq2
 exact mst
 rw [if_pos h8] at hq2
 exact bk ⟨i2 + 1, hq2⟩
 rw [av h3, eP] at hq2
 obtain ⟨hg9, hq2⟩ := aj hq2
 refine bkd (fun h10 => z ?_) (fun h10 => z ?_)
 rw [if_pos h10] at hq2
 cases hq2
 exact mst
 rw [if_neg h10] at hq2
 cases hq2
 exact mst
theorem cfV_ok {fn : FuncId} {g : Va → Va → Option Int} (hg : ∀ {x y r}, g x y = some r → aY Tryz.prog fn [.agg (uVa x), .agg (uVa y)] fun s => s = .int .i64 r) {a b : List (Va)} {r : Int} (hm : eh g a b = some r) : aY Tryz.prog 279 [.lst false (a.map (eVa)), .lst false (b.map (eVa)), .func (.func fn) [] []] fun s => s = .int .i64 r := by
 refine ht aa Tryz.f279 ?_
 unfold eh at hm
 refine z ?_
 obtain ⟨hg1, hm⟩ := aj hm
 refine lg (α := Nat) aa (fun iw => (eP (g) (b) (a.length) (List.drop iw (a)) (iw : Int) = some r, ⟨39, [(13, .int .i64 iw), (12, .int .i64 ↑a.length), (11, .lst false (List.map eVa a)), (6, .int .i64 0), (0, .lst false (List.map eVa a)), (1, .lst false (List.map eVa b)), (2, .func (.func fn) [] [])]⟩, ⟨[(0, aS)], 1, 0, [], []⟩, List.length (a) - iw)) ⟨(0), hm⟩ ?_
 intro i2 hq2
 dsimp only at hq2
 refine z ?_
 refine bkd (fun h3 => z ?_) (fun h3 => z ?_)
 obtain ⟨x3, ex3, ed3⟩ := au h3
 rw [ed3, eP] at hq2
 refine z ?_
 obtain ⟨hg4, hq2⟩ := aj hq2
 refine bo (bX _) ex3 rfl (z ?_)
 refine bkd (fun h5 => z ?_) (fun h5 => z ?_)
 rw [if_pos h5] at hq2
 cases hq2
 exact mst
 rw [if_neg h5] at hq2
 obtain ⟨j6, x6, en6, ex6, hq2⟩ := aB hq2
 refine bU (bX _) en6 ex6 rfl (z ?_)
 obtain ⟨v7, e7, hq2⟩ := ae hq2
 refine ct (hg e7) (z ?_)
 refine bkn (fun h8 => z ?_) (fun h8 => z ?_)
 rw [if_neg h8] at hq2
 cases hq2
 exact mst
 rw [if_pos h8] at hq2
 exact bk ⟨i2 + 1, hq2⟩
 rw [av h3, eP] at hq2
 obtain ⟨hg9, hq2⟩ := aj hq2
 refine bkd (fun h10 => z ?_) (fun h10 => z ?_)
 rw [if_pos h10] at hq2
 cases hq2
 exact mst
 rw [if_neg h10] at hq2
 cases hq2
 exact mst
theorem cfF_ok {fn : FuncId} {g : (Fld Va) → (Fld Va) → Option Int} (hg : ∀ {x y r}, g x y = some r → aY Tryz.prog fn [.agg (jw x), .agg (jw y)] fun s => s = .int .i64 r) {a b : List (Fld Va)} {r : Int} (hm : eh g a b = some r) : aY Tryz.prog 282 [.lst false (a.map (cC eVa)), .lst false (b.map (cC eVa)), .func (.func fn) [] []] fun s => s = .int .i64 r := by
 refine ht aa Tryz.f282 ?_
 unfold eh at hm
 refine z ?_
 obtain ⟨hg1, hm⟩ := aj hm
 refine lg (α := Nat) aa (fun iw => (eP (g) (b) (a.length) (List.drop iw (a)) (iw : Int) = some r, ⟨39, [(13, .int .i64 iw), (12, .int .i64 ↑a.length), (11, .lst false (List.map (cC eVa) a)), (6, .int .i64 0), (0, .lst false (List.map (cC eVa) a)), (1, .lst false (List.map (cC eVa) b)), (2, .func (.func fn) [] [])]⟩, ⟨[(0, aS)], 1, 0, [], []⟩, List.length (a) - iw)) ⟨(0), hm⟩ ?_
 intro i2 hq2
 dsimp only at hq2
 refine z ?_
 refine bkd (fun h3 => z ?_) (fun h3 => z ?_)
 obtain ⟨x3, ex3, ed3⟩ := au h3
 rw [ed3, eP] at hq2
 refine z ?_
 obtain ⟨hg4, hq2⟩ := aj hq2
 refine bo (cq _) ex3 rfl (z ?_)
 refine bkd (fun h5 => z ?_) (fun h5 => z ?_)
 rw [if_pos h5] at hq2
 cases hq2
 exact mst
 rw [if_neg h5] at hq2
 obtain ⟨j6, x6, en6, ex6, hq2⟩ := aB hq2
 refine bU (cq _) en6 ex6 rfl (z ?_)
 obtain ⟨v7, e7, hq2⟩ := ae hq2
 refine ct (hg e7) (z ?_)
 refine bkn (fun h8 => z ?_) (fun h8 => z ?_)
 rw [if_neg h8] at hq2
 cases hq2
 exact mst
 rw [if_pos h8] at hq2
 exact bk ⟨i2 + 1, hq2⟩
 rw [av h3, eP] at hq2
 obtain ⟨hg9, hq2⟩ := aj hq2
 refine bkd (fun h10 => z ?_) (fun h10 => z ?_)
 rw [if_pos h10] at hq2
 cases hq2
 exact mst
 rw [if_neg h10] at hq2
 cases hq2
 exact mst
theorem cfC_ok {fn : FuncId} {g : (Cls Va) → (Cls Va) → Option Int} (hg : ∀ {x y r}, g x y = some r → aY Tryz.prog fn [.agg (ep x), .agg (ep y)] fun s => s = .int .i64 r) {a b : List (Cls Va)} {r : Int} (hm : eh g a b = some r) : aY Tryz.prog 288 [.lst false (a.map (cQ eVa)), .lst false (b.map (cQ eVa)), .func (.func fn) [] []] fun s => s = .int .i64 r := by
 refine ht aa Tryz.f288 ?_
 unfold eh at hm
 refine z ?_
 obtain ⟨hg1, hm⟩ := aj hm
 refine lg (α := Nat) aa (fun iw => (eP (g) (b) (a.length) (List.drop iw (a)) (iw : Int) = some r, ⟨39, [(13, .int .i64 iw), (12, .int .i64 ↑a.length), (11, .lst false (List.map (cQ eVa) a)), (6, .int .i64 0), (0, .lst false (List.map (cQ eVa) a)), (1, .lst false (List.map (cQ eVa) b)), (2, .func (.func fn) [] [])]⟩, ⟨[(0, aS)], 1, 0, [], []⟩, List.length (a) - iw)) ⟨(0), hm⟩ ?_
 intro i2 hq2
 dsimp only at hq2
 refine z ?_
 refine bkd (fun h3 => z ?_) (fun h3 => z ?_)
 obtain ⟨x3, ex3, ed3⟩ := au h3
 rw [ed3, eP] at hq2
 refine z ?_
 obtain ⟨hg4, hq2⟩ := aj hq2
 refine bo (bY _) ex3 rfl (z ?_)
 refine bkd (fun h5 => z ?_) (fun h5 => z ?_)
 rw [if_pos h5] at hq2
 cases hq2
 exact mst
 rw [if_neg h5] at hq2
 obtain ⟨j6, x6, en6, ex6, hq2⟩ := aB hq2
 refine bU (bY _) en6 ex6 rfl (z ?_)
 obtain ⟨v7, e7, hq2⟩ := ae hq2
 refine ct (hg e7) (z ?_)
 refine bkn (fun h8 => z ?_) (fun h8 => z ?_)
 rw [if_neg h8] at hq2
 cases hq2
 exact mst
 rw [if_pos h8] at hq2
 exact bk ⟨i2 + 1, hq2⟩
 rw [av h3, eP] at hq2
 obtain ⟨hg9, hq2⟩ := aj hq2
 refine bkd (fun h10 => z ?_) (fun h10 => z ?_)
 rw [if_pos h10] at hq2
 cases hq2
 exact mst
 rw [if_neg h10] at hq2
 cases hq2
 exact mst
abbrev me (rec : Vlu Va → Vlu Va → Option Int) : Prop := ∀ {a b r}, rec a b = some r → aY Tryz.prog 192 [.agg (bM eVa a), .agg (bM eVa b)] fun s => s = .int .i64 r
theorem vcVa1_ok {rec : Vlu Va → Vlu Va → Option Int} (h : me rec) {x y : Va} {r : Int} (hm : rec x.v y.v = some r) : aY Tryz.prog 303 [.bA (uVa x) 0, .bA (uVa y) 0] fun s => s = .int .i64 r := by
 refine ht aa Tryz.f303 (z ?_)
 replace hm := aG hm
 obtain ⟨v1, e1, hm⟩ := ae hm
 refine ct (h e1) (z ?_)
 cases hm
 exact mst
theorem vcVa2_ok {rec : Vlu Va → Vlu Va → Option Int} (h : me rec) {x y : Va} {r : Int} (hm : rec x.d y.d = some r) : aY Tryz.prog 304 [.bA (uVa x) 0, .bA (uVa y) 0] fun s => s = .int .i64 r := by
 refine ht aa Tryz.f304 (z ?_)
 replace hm := aG hm
 obtain ⟨v1, e1, hm⟩ := ae hm
 refine ct (h e1) (z ?_)
 cases hm
 exact mst
def uZ (rec : Vlu Va → Vlu Va → Option Int) (x y : Va) : Option Int := thn (rec x.v y.v) (thn (rec x.d y.d) (some 0))
theorem uY {rec : Vlu Va → Vlu Va → Option Int} (h : me rec) {x y : Va} {r : Int} (hm : uZ rec x y = some r) : aY Tryz.prog 280 [.agg (uVa x), .agg (uVa y)] fun s => s = .int .i64 r := by
 refine ht aa Tryz.f280 ?_
 unfold uZ at hm
 unfold thn at hm
 refine z ?_
 refine ci aa Tryz.f238 (z ?_)
 refine fj (z ?_)
 refine bd aa ?_
 refine z ?_
 refine b5 (j := 0) rfl (by decide) (z ?_)
 refine ⟨_, rfl, ?_⟩
 refine z ?_
 obtain ⟨v1, e1, hm⟩ := ae hm
 refine bq (vcVa1_ok h e1) (z ?_)
 refine bkn (fun h2 => z ?_) (fun h2 => z ?_)
 rw [if_neg h2] at hm
 refine ei (z ?_)
 cases hm
 exact mst
 rw [if_pos h2] at hm
 refine bd aa ?_
 refine z ?_
 refine b5 (j := 1) rfl (by decide) (z ?_)
 refine ⟨_, rfl, ?_⟩
 refine z ?_
 obtain ⟨v3, e3, hm⟩ := ae hm
 refine bq (vcVa2_ok h e3) (z ?_)
 refine bkn (fun h4 => z ?_) (fun h4 => z ?_)
 rw [if_neg h4] at hm
 refine ei (z ?_)
 cases hm
 exact mst
 rw [if_pos h4] at hm
 refine bd aa ?_
 refine z ?_
 refine ei (z ?_)
 cases hm
 exact mst
def vcL1 (x y : aT Va) : Option Int := (aN x.items).bind fun _ => (aN y.items).bind fun _ => rW x.items.length y.items.length
theorem vcL1_ok {x y : aT Va} {r : Int} (hm : vcL1 x y = some r) : Has Tryz.prog 276 [.bA (aO eVa x) 0, .bA (aO eVa y) 0] fun s => s = .int .i64 r := by
 refine hs aa Tryz.f276 ?_
 unfold vcL1 at hm
 refine z ?_
 obtain ⟨hg1, hm⟩ := aj hm
 obtain ⟨hg2, hm⟩ := aj hm
 replace hm := aG hm
 obtain ⟨v3, e3, hm⟩ := ae hm
 refine ce (wa e3) (z ?_)
 cases hm
 exact fc
def vcL2 (x y : aT Va) : Option Int := (aN x.rest).bind fun _ => (aN y.rest).bind fun _ => qe (decide ((x.rest.length : Int) > 0)) (decide ((y.rest.length : Int) > 0))
theorem vcL2_ok {x y : aT Va} {r : Int} (hm : vcL2 x y = some r) : Has Tryz.prog 277 [.bA (aO eVa x) 0, .bA (aO eVa y) 0] fun s => s = .int .i64 r := by
 refine hs aa Tryz.f277 ?_
 unfold vcL2 at hm
 refine z ?_
 obtain ⟨hg1, hm⟩ := aj hm
 obtain ⟨hg2, hm⟩ := aj hm
 replace hm := aG hm
 obtain ⟨v3, e3, hm⟩ := ae hm
 refine ce (wX e3) (z ?_)
 cases hm
 exact fc
def vcL3 (rec : Vlu Va → Vlu Va → Option Int) (x y : aT Va) : Option Int := (eH x).bind fun p => (eH y).bind fun q => eh (uZ rec) p q
theorem vcL3_ok {rec : Vlu Va → Vlu Va → Option Int} (h : me rec) {x y : aT Va} {r : Int} (hm : vcL3 rec x y = some r) : aY Tryz.prog 278 [.bA (aO eVa x) 0, .bA (aO eVa y) 0] fun s => s = .int .i64 r := by
 refine ht aa Tryz.f278 ?_
 unfold vcL3 at hm
 refine z ?_
 refine dg aa [0,1,0,7,15,31] [] (z ?_)
 obtain ⟨v1, e1, hm⟩ := ae hm
 refine ce (fG e1) (z ?_)
 obtain ⟨v2, e2, hm⟩ := ae hm
 refine ce (fG e2) (z ?_)
 replace hm := aG hm
 obtain ⟨v3, e3, hm⟩ := ae hm
 refine ct (cfV_ok (uY h) e3) (z ?_)
 cases hm
 exact mst
def vcLC (rec : Vlu Va → Vlu Va → Option Int) (x y : aT Va) : Option Int := thn (vcL1 x y) (thn (vcL2 x y) (thn (vcL3 rec x y) (some 0)))
theorem vcLC_ok {rec : Vlu Va → Vlu Va → Option Int} (h : me rec) {x y : aT Va} {r : Int} (hm : vcLC rec x y = some r) : aY Tryz.prog 244 [.agg (aO eVa x), .agg (aO eVa y)] fun s => s = .int .i64 r := by
 refine ht aa Tryz.f244 ?_
 unfold vcLC at hm
 unfold thn at hm
 refine z ?_
 refine ci aa Tryz.f238 (z ?_)
 refine fj (z ?_)
 refine bd aa ?_
 refine z ?_
 refine b5 (j := 0) rfl (by decide) (z ?_)
 refine ⟨_, rfl, ?_⟩
 refine z ?_
 obtain ⟨v1, e1, hm⟩ := ae hm
 refine bH (vcL1_ok e1) rfl (z ?_)
 refine bkn (fun h2 => z ?_) (fun h2 => z ?_)
 rw [if_neg h2] at hm
 refine ei (z ?_)
 cases hm
 exact mst
 rw [if_pos h2] at hm
 refine bd aa ?_
 refine z ?_
 refine b5 (j := 1) rfl (by decide) (z ?_)
 refine ⟨_, rfl, ?_⟩
 refine z ?_
 obtain ⟨v3, e3, hm⟩ := ae hm
 refine bH (vcL2_ok e3) rfl (z ?_)
 refine bkn (fun h4 => z ?_) (fun h4 => z ?_)
 rw [if_neg h4] at hm
 refine ei (z ?_)
 cases hm
 exact mst
 rw [if_pos h4] at hm
 refine bd aa ?_
 refine z ?_
 refine b5 (j := 2) rfl (by decide) (z ?_)
 refine ⟨_, rfl, ?_⟩
 refine z ?_
 obtain ⟨v5, e5, hm⟩ := ae hm
 refine bq (vcL3_ok h e5) (z ?_)
 refine bkn (fun h6 => z ?_) (fun h6 => z ?_)
 rw [if_neg h6] at hm
 refine ei (z ?_)
 cases hm
 exact mst
 rw [if_pos h6] at hm
 refine bd aa ?_
 refine z ?_
 refine ei (z ?_)
 cases hm
 exact mst
theorem vcF1_ok {x y : Fld Va} {r : Int} (hm : rT x.label y.label = some r) : Has Tryz.prog 284 [.bA (jw x) 0, .bA (jw y) 0] fun s => s = .int .i64 r := by
 refine hs aa Tryz.f284 (z ?_)
 replace hm := aG hm
 obtain ⟨v1, e1, hm⟩ := ae hm
 refine ce (cmpS_ok e1) (z ?_)
 cases hm
 exact fc
theorem vcF2_ok {x y : Fld Va} {r : Int} (hm : rW x.fe y.fe = some r) : Has Tryz.prog 285 [.bA (jw x) 0, .bA (jw y) 0] fun s => s = .int .i64 r := by
 refine hs aa Tryz.f285 (z ?_)
 replace hm := aG hm
 obtain ⟨v1, e1, hm⟩ := ae hm
 refine ce (wa e1) (z ?_)
 cases hm
 exact fc
theorem vcF3_ok {rec : Vlu Va → Vlu Va → Option Int} (h : me rec) {x y : Fld Va} {r : Int} (hm : uZ rec x.val y.val = some r) : aY Tryz.prog 286 [.bA (jw x) 0, .bA (jw y) 0] fun s => s = .int .i64 r := by
 refine ht aa Tryz.f286 (z ?_)
 replace hm := aG hm
 obtain ⟨v1, e1, hm⟩ := ae hm
 refine ct (uY h e1) (z ?_)
 cases hm
 exact mst
def vcF (rec : Vlu Va → Vlu Va → Option Int) (x y : Fld Va) : Option Int := thn (rT x.label y.label) (thn (rW x.fe y.fe) (thn (uZ rec x.val y.val) (some 0)))
theorem vcF_ok {rec : Vlu Va → Vlu Va → Option Int} (h : me rec) {x y : Fld Va} {r : Int} (hm : vcF rec x y = some r) : aY Tryz.prog 283 [.agg (jw x), .agg (jw y)] fun s => s = .int .i64 r := by
 refine ht aa Tryz.f283 ?_
 unfold vcF at hm
 unfold thn at hm
 refine z ?_
 refine ci aa Tryz.f238 (z ?_)
 refine fj (z ?_)
 refine bd aa ?_
 refine z ?_
 refine b5 (j := 0) rfl (by decide) (z ?_)
 refine ⟨_, rfl, ?_⟩
 refine z ?_
 obtain ⟨v1, e1, hm⟩ := ae hm
 refine bH (vcF1_ok e1) rfl (z ?_)
 refine bkn (fun h2 => z ?_) (fun h2 => z ?_)
 rw [if_neg h2] at hm
 refine ei (z ?_)
 cases hm
 exact mst
 rw [if_pos h2] at hm
 refine bd aa ?_
 refine z ?_
 refine b5 (j := 1) rfl (by decide) (z ?_)
 refine ⟨_, rfl, ?_⟩
 refine z ?_
 obtain ⟨v3, e3, hm⟩ := ae hm
 refine bH (vcF2_ok e3) rfl (z ?_)
 refine bkn (fun h4 => z ?_) (fun h4 => z ?_)
 rw [if_neg h4] at hm
 refine ei (z ?_)
 cases hm
 exact mst
 rw [if_pos h4] at hm
 refine bd aa ?_
 refine z ?_
 refine b5 (j := 2) rfl (by decide) (z ?_)
 refine ⟨_, rfl, ?_⟩
 refine z ?_
 obtain ⟨v5, e5, hm⟩ := ae hm
 refine bq (vcF3_ok h e5) (z ?_)
 refine bkn (fun h6 => z ?_) (fun h6 => z ?_)
 rw [if_neg h6] at hm
 refine ei (z ?_)
 cases hm
 exact mst
 rw [if_pos h6] at hm
 refine bd aa ?_
 refine z ?_
 refine ei (z ?_)
 cases hm
 exact mst
theorem vcC1_ok {x y : Cls Va} {r : Int} (hm : ze x.set y.set = some r) : aY Tryz.prog 290 [.bA (ep x) 0, .bA (ep y) 0] fun s => s = .int .i64 r := by
 refine ht aa Tryz.f290 (z ?_)
 replace hm := aG hm
 obtain ⟨v1, e1, hm⟩ := ae hm
 refine ct (vZ e1) (z ?_)
 cases hm
 exact mst
theorem vcC2_ok {rec : Vlu Va → Vlu Va → Option Int} (h : me rec) {x y : Cls Va} {r : Int} (hm : uZ rec x.val y.val = some r) : aY Tryz.prog 291 [.bA (ep x) 0, .bA (ep y) 0] fun s => s = .int .i64 r := by
 refine ht aa Tryz.f291 (z ?_)
 replace hm := aG hm
 obtain ⟨v1, e1, hm⟩ := ae hm
 refine ct (uY h e1) (z ?_)
 cases hm
 exact mst
def vcC (rec : Vlu Va → Vlu Va → Option Int) (x y : Cls Va) : Option Int := thn (ze x.set y.set) (thn (uZ rec x.val y.val) (some 0))
theorem vcC_ok {rec : Vlu Va → Vlu Va → Option Int} (h : me rec) {x y : Cls Va} {r : Int} (hm : vcC rec x y = some r) : aY Tryz.prog 289 [.agg (ep x), .agg (ep y)] fun s => s = .int .i64 r := by
 refine ht aa Tryz.f289 ?_
 unfold vcC at hm
 unfold thn at hm
 refine z ?_
 refine ci aa Tryz.f238 (z ?_)
 refine fj (z ?_)
 refine bd aa ?_
 refine z ?_
 refine b5 (j := 0) rfl (by decide) (z ?_)
 refine ⟨_, rfl, ?_⟩
 refine z ?_
 obtain ⟨v1, e1, hm⟩ := ae hm
 refine bq (vcC1_ok e1) (z ?_)
 refine bkn (fun h2 => z ?_) (fun h2 => z ?_)
 rw [if_neg h2] at hm
 refine ei (z ?_)
 cases hm
 exact mst
 rw [if_pos h2] at hm
 refine bd aa ?_
 refine z ?_
 refine b5 (j := 1) rfl (by decide) (z ?_)
 refine ⟨_, rfl, ?_⟩
 refine z ?_
 obtain ⟨v3, e3, hm⟩ := ae hm
 refine bq (vcC2_ok h e3) (z ?_)
 refine bkn (fun h4 => z ?_) (fun h4 => z ?_)
 rw [if_neg h4] at hm
 refine ei (z ?_)
 cases hm
 exact mst
 rw [if_pos h4] at hm
 refine bd aa ?_
 refine z ?_
 refine ei (z ?_)
 cases hm
 exact mst
theorem vcS1_ok {rec : Vlu Va → Vlu Va → Option Int} (h : me rec) {x y : aI Va} {r : Int} (hm : eh (vcF rec) x.fields y.fields = some r) : aY Tryz.prog 281 [.bA (aF eVa x) 0, .bA (aF eVa y) 0] fun s => s = .int .i64 r := by
 refine ht aa Tryz.f281 (z ?_)
 replace hm := aG hm
 obtain ⟨v1, e1, hm⟩ := ae hm
 refine ct (cfF_ok (vcF_ok h) e1) (z ?_)
 cases hm
 exact mst
theorem vcS2_ok {rec : Vlu Va → Vlu Va → Option Int} (h : me rec) {x y : aI Va} {r : Int} (hm : eh (vcC rec) x.aA y.aA = some r) : aY Tryz.prog 287 [.bA (aF eVa x) 0, .bA (aF eVa y) 0] fun s => s = .int .i64 r := by
 refine ht aa Tryz.f287 (z ?_)
 replace hm := aG hm
 obtain ⟨v1, e1, hm⟩ := ae hm
 refine ct (cfC_ok (vcC_ok h) e1) (z ?_)
 cases hm
 exact mst
def vcSC (rec : Vlu Va → Vlu Va → Option Int) (x y : aI Va) : Option Int := thn (eh (vcF rec) x.fields y.fields) (thn (eh (vcC rec) x.aA y.aA) (some 0))
theorem vcSC_ok {rec : Vlu Va → Vlu Va → Option Int} (h : me rec) {x y : aI Va} {r : Int} (hm : vcSC rec x y = some r) : aY Tryz.prog 247 [.agg (aF eVa x), .agg (aF eVa y)] fun s => s = .int .i64 r := by
 refine ht aa Tryz.f247 ?_
 unfold vcSC at hm
 unfold thn at hm
 refine z ?_
 refine ci aa Tryz.f238 (z ?_)
 refine fj (z ?_)
 refine bd aa ?_
 refine z ?_
 refine b5 (j := 0) rfl (by decide) (z ?_)
 refine ⟨_, rfl, ?_⟩
 refine z ?_
 obtain ⟨v1, e1, hm⟩ := ae hm
 refine bq (vcS1_ok h e1) (z ?_)
 refine bkn (fun h2 => z ?_) (fun h2 => z ?_)
 rw [if_neg h2] at hm
 refine ei (z ?_)
 cases hm
 exact mst
 rw [if_pos h2] at hm
 refine bd aa ?_
 refine z ?_
 refine b5 (j := 1) rfl (by decide) (z ?_)
 refine ⟨_, rfl, ?_⟩
 refine z ?_
 obtain ⟨v3, e3, hm⟩ := ae hm
 refine bq (vcS2_ok h e3) (z ?_)
 refine bkn (fun h4 => z ?_) (fun h4 => z ?_)
 rw [if_neg h4] at hm
 refine ei (z ?_)
 cases hm
 exact mst
 rw [if_pos h4] at hm
 refine bd aa ?_
 refine z ?_
 refine ei (z ?_)
 cases hm
 exact mst
theorem vc1_ok {a b : Vlu Va} {r : Int} (hm : qe a.any b.any = some r) : Has Tryz.prog 239 [.bA (bM eVa a) 0, .bA (bM eVa b) 0] fun s => s = .int .i64 r := by
 refine hs aa Tryz.f239 (z ?_)
 replace hm := aG hm
 obtain ⟨v1, e1, hm⟩ := ae hm
 refine ce (wX e1) (z ?_)
 cases hm
 exact fc
theorem vc2_ok {a b : Vlu Va} {r : Int} (hm : rS a.sc b.sc = some r) : aY Tryz.prog 241 [.bA (bM eVa a) 0, .bA (bM eVa b) 0] fun s => s = .int .i64 r := by
 refine ht aa Tryz.f241 (z ?_)
 replace hm := aG hm
 obtain ⟨v1, e1, hm⟩ := ae hm
 refine ct (za e1) (z ?_)
 cases hm
 exact mst
theorem vc3_ok {rec : Vlu Va → Vlu Va → Option Int} (h : me rec) {a b : Vlu Va} {r : Int} (hm : eh (vcLC rec) a.lists b.lists = some r) : aY Tryz.prog 242 [.bA (bM eVa a) 0, .bA (bM eVa b) 0] fun s => s = .int .i64 r := by
 refine ht aa Tryz.f242 (z ?_)
 replace hm := aG hm
 obtain ⟨v1, e1, hm⟩ := ae hm
 refine ct (cfL_ok (vcLC_ok h) e1) (z ?_)
 cases hm
 exact mst
theorem vc4_ok {rec : Vlu Va → Vlu Va → Option Int} (h : me rec) {a b : Vlu Va} {r : Int} (hm : eh (vcSC rec) a.structs b.structs = some r) : aY Tryz.prog 245 [.bA (bM eVa a) 0, .bA (bM eVa b) 0] fun s => s = .int .i64 r := by
 refine ht aa Tryz.f245 (z ?_)
 replace hm := aG hm
 obtain ⟨v1, e1, hm⟩ := ae hm
 refine ct (cfS_ok (vcSC_ok h) e1) (z ?_)
 cases hm
 exact mst
def wZ : Nat → Vlu Va → Vlu Va → Option Int
 | 0, _, _ => none
 | n + 1, a, b => thn (qe a.any b.any) (thn (rS a.sc b.sc) (thn (eh (vcLC (wZ n)) a.lists b.lists) (thn (eh (vcSC (wZ n)) a.structs b.structs) (some 0))))
theorem vcmp_ok : ∀ {n : Nat}, me (wZ n) := by
 intro n
 induction n with
 | zero => intro a b r hm; cases hm
 | succ n ih =>
  intro a b r hm
  refine ht aa Tryz.f192 ?_
  unfold wZ at hm
  unfold thn at hm
  refine z ?_
  refine ci aa Tryz.f238 (z ?_)
  refine fj (z ?_)
  refine bd aa ?_
  refine z ?_
  refine b5 (j := 0) rfl (by decide) (z ?_)
  refine ⟨_, rfl, ?_⟩
  refine z ?_
  obtain ⟨v1, e1, hm⟩ := ae hm
  refine bH (vc1_ok e1) rfl (z ?_)
  refine bkn (fun h2 => z ?_) (fun h2 => z ?_)
  ·rw [if_neg h2] at hm
   refine ei (z ?_)
   cases hm
   exact mst
  ·rw [if_pos h2] at hm
   refine bd aa ?_
   refine z ?_
   refine b5 (j := 1) rfl (by decide) (z ?_)
   refine ⟨_, rfl, ?_⟩
   refine z ?_
   obtain ⟨v3, e3, hm⟩ := ae hm
   refine bq (vc2_ok e3) (z ?_)
   refine bkn (fun h4 => z ?_) (fun h4 => z ?_)
   ·rw [if_neg h4] at hm
    refine ei (z ?_)
    cases hm
    exact mst
   ·rw [if_pos h4] at hm
    refine bd aa ?_
    refine z ?_
    refine b5 (j := 2) rfl (by decide) (z ?_)
    refine ⟨_, rfl, ?_⟩
    refine z ?_
    obtain ⟨v5, e5, hm⟩ := ae hm
    refine bq (vc3_ok ih e5) (z ?_)
    refine bkn (fun h6 => z ?_) (fun h6 => z ?_)
    ·rw [if_neg h6] at hm
     refine ei (z ?_)
     cases hm
     exact mst
    ·rw [if_pos h6] at hm
     refine bd aa ?_
     refine z ?_
     refine b5 (j := 3) rfl (by decide) (z ?_)
     refine ⟨_, rfl, ?_⟩
     refine z ?_
     obtain ⟨v7, e7, hm⟩ := ae hm
     refine bq (vc4_ok ih e7) (z ?_)
     refine bkn (fun h8 => z ?_) (fun h8 => z ?_)
     ·rw [if_neg h8] at hm
      refine ei (z ?_)
      cases hm
      exact mst
     ·rw [if_pos h8] at hm
      refine bd aa ?_
      refine z ?_
      refine ei (z ?_)
      cases hm
      exact mst
def rR (a b : Vlu Va) : Option Int := (jz a).bind fun x => if x then (jz b).bind fun y => if y then wZ yK a b else some 0 else some 0
theorem uE {a b : Vlu Va} {r : Int} (hm : rR a b = some r) : aY Tryz.prog 143 [.agg (bM eVa a), .agg (bM eVa b)] fun s => s = .int .i64 r := by
 refine ht aa Tryz.f143 ?_
 unfold rR at hm
 refine z ?_
 obtain ⟨v1, e1, hm⟩ := ae hm
 refine ct (ku e1) (z ?_)
 refine bkm (fun h2 => z ?_) (fun h2 => z ?_)
 rw [if_neg (nt h2)] at hm
 cases hm
 exact mst
 rw [if_pos h2] at hm
 obtain ⟨v3, e3, hm⟩ := ae hm
 refine ct (ku e3) (z ?_)
 refine bkm (fun h4 => z ?_) (fun h4 => z ?_)
 rw [if_neg (nt h4)] at hm
 cases hm
 exact mst
 rw [if_pos h4] at hm
 replace hm := aG hm
 obtain ⟨v5, e5, hm⟩ := ae hm
 refine ct (vcmp_ok e5) (z ?_)
 cases hm
 exact mst
end Go.Proofs.YtmjddpeookapaaaGreatDoor
