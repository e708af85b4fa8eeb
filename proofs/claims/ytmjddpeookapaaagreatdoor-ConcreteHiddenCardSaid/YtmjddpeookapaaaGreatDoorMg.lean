/- For ConcreteHidden: functions of the program, walked beside Lean functions that say what they compute. -/
import Derived.Test.YtmjddpeookapaaaGreatDoorEn
import Derived.KernelRfl
import Derived.Test.YtmjddpeookapaaaGreatDoorMf
import Derived.Test.YtmjddpeookapaaaGreatDoorKY
set_option linter.unusedVariables false
set_option linter.unusedSimpArgs false
set_option linter.unusedSectionVars false
namespace Go.Proofs.YtmjddpeookapaaaGreatDoor
open Sv
set_option maxRecDepth 100000
set_option maxHeartbeats 2000000
def th (v : List Int) : List (Cls Va) → Int → Int → Option Int
 | [], _, n => some n
 | k :: r, i, n => (atI v i).bind fun s => if s ≥ 0 then (atI v i).bind fun s => (atI k.set s).bind fun x => if x.acc then (cX (n + 1)).bind fun _ => th v r (i + 1) (n + 1) else th v r (i + 1) n else th v r (i + 1) n
def vK (v : List Int) (m : Int) : List (Fld Va) → Int → Int → Option Int
 | [], _, n => some n
 | f :: r, i, n => (atI v (m + i)).bind fun s => (aN f.label).bind fun _ => if s = (f.label.length : Int) then (cX (n + 1)).bind fun _ => vK v m r (i + 1) (n + 1) else vK v m r (i + 1) n
def hits (c : aI Va) (v : List Int) : Option Int := (aN c.aA).bind fun _ => (th v c.aA 0 0).bind fun n => (aN c.fields).bind fun _ => vK v c.aA.length c.fields 0 n
theorem hits_ok {c : aI Va} {v : List Int} {r : Int} (hm : hits c v = some r) : Has Tryz.prog 215 [.agg (aF eVa c), .lst false (v.map bt)] fun s => s = .int .i64 r := by
 refine hs aa Tryz.f215 ?_
 unfold hits at hm
 refine z ?_
 obtain ⟨hg1, hm⟩ := aj hm
 obtain ⟨v2, hv2, hm⟩ := ae hm
 refine lg (α := Nat × Int) aa (fun (iw, s1) => (th (v) (List.drop iw (c.aA)) (iw : Int) s1 = some v2, ⟨62, [(13, .int .i64 iw), (12, .int .i64 ↑c.aA.length), (11, .lst false (List.map (cQ eVa) c.aA)), (5, .int .i64 s1), (4, .int .i64 0), (2, .ptr 0 0), (1, .lst false (List.map bt v))]⟩, ⟨[(0, .cells (aF eVa c))], 1, 0, [], []⟩, List.length (c.aA) - iw)) ⟨(0, _), hv2⟩ ?_
 rintro ⟨i2, s1_2⟩ hq2
 dsimp only at hq2
 refine z ?_
 refine bkd (fun h3 => z ?_) (fun h3 => z ?_)
 obtain ⟨x3, ex3, ed3⟩ := au h3
 rw [ed3, th] at hq2
 refine z ?_
 refine bo (bY _) ex3 rfl (z ?_)
 refine dg aa [0,0,3,7,15,31,63,127,255,63,63,1599,3647,8191,16383,32767,65535] [] (z ?_)
 obtain ⟨j4, x4, en4, ex4, hq2⟩ := aB hq2
 refine bf en4 ex4 rfl (z ?_)
 refine bkd (fun h5 => z ?_) (fun h5 => z ?_)
 rw [if_pos h5] at hq2
 obtain ⟨j6, x6, en6, ex6, hq2⟩ := aB hq2
 refine bf en6 ex6 rfl (z ?_)
 obtain ⟨j7, x7, en7, ex7, hq2⟩ := aB hq2
 refine bf en7 ex7 rfl (z ?_)
 refine brk (fun h8 => z ?_) (fun h8 => z ?_)
 rw [if_pos h8] at hq2
 obtain ⟨hg9, hq2⟩ := aj hq2
 refine z ?_
 exact bk ⟨(i2 + 1, _), hq2⟩
 rw [if_neg (nt h8)] at hq2
 exact bk ⟨(i2 + 1, _), hq2⟩
 rw [if_neg h5] at hq2
 exact bk ⟨(i2 + 1, _), hq2⟩
 rw [av h3, th] at hq2
 cases hq2
 refine z ?_
 obtain ⟨hg10, hm⟩ := aj hm
 refine a8 rfl rfl ?_
 refine lg (α := Nat × Int) aa (fun (iw, s1) => (vK (v) (↑c.aA.length) (List.drop iw (c.fields)) (iw : Int) s1 = some r, ⟨62, [(41, .int .i64 iw), (40, .int .i64 ↑c.fields.length), (39, .lst false (List.map (cC eVa) c.fields)), (5, .int .i64 s1), (4, .int .i64 0), (2, .ptr 0 0), (1, .lst false (List.map bt v))]⟩, ⟨[(0, .cells (aF eVa c))], 1, 0, [], []⟩, List.length (c.fields) - iw)) ⟨(0, _), hm⟩ ?_
 rintro ⟨i11, s1_11⟩ hq11
 dsimp only at hq11
 refine z ?_
 refine bkd (fun h12 => z ?_) (fun h12 => z ?_)
 obtain ⟨x12, ex12, ed12⟩ := au h12
 rw [ed12, vK] at hq11
 refine z ?_
 refine bo (cq _) ex12 rfl (z ?_)
 refine dg aa [0,0,2,6,0,30,63,127,0,256,768,2047] [] (z ?_)
 obtain ⟨j13, x13, en13, ex13, hq11⟩ := aB hq11
 refine bf en13 ex13 rfl (z ?_)
 obtain ⟨hg14, hq11⟩ := aj hq11
 refine bkd (fun h15 => z ?_) (fun h15 => z ?_)
 rw [if_pos h15] at hq11
 obtain ⟨hg16, hq11⟩ := aj hq11
 refine z ?_
 exact bk ⟨(i11 + 1, _), hq11⟩
 rw [if_neg h15] at hq11
 exact bk ⟨(i11 + 1, _), hq11⟩
 rw [av h12, vK] at hq11
 cases hq11
 exact fc
def stE : List Sv.Edge → List Bool → Option (List Bool)
 | [], a => some a
 | e :: r, a => (je e.hi).bind fun _ => (ph 257 a e.lo true).bind fun a => (ph 257 a (e.hi + 1) true).bind fun a => stE r a
def stK (v : List Int) : List (Cls Va) → Int → List Bool → Option (List Bool)
 | [], _, a => some a
 | k :: r, i, a => (atI v i).bind fun s => if s < 0 then stK v r (i + 1) a else (atI k.set s).bind fun x => (aN x.aL).bind fun _ => (stE x.aL a).bind fun a => stK v r (i + 1) a
def stF (v : List Int) (m : Int) : List (Fld Va) → Int → List Bool → Option (List Bool)
 | [], _, a => some a
 | f :: r, i, a => (atI v (m + i)).bind fun n => if n ≥ 0 then (aN f.label).bind fun _ => if n < (f.label.length : Int) then
   (atI f.label n).bind fun b => (ph 257 a b.toNat true).bind fun a => (ph 257 a (b.toNat + 1) true).bind fun a => stF v m r (i + 1) a else stF v m r (i + 1) a else stF v m r (i + 1) a
def stO (a : List Bool) : Nat → Int → List Int → Option (List Int)
 | 0, _, out => some out
 | n + 1, c, out => (atA 257 a c).bind fun x => if x then (je c).bind fun _ => (push out c).bind fun out => stO a n (c + 1) out else stO a n (c + 1) out
def at257 : List Bool := true :: List.replicate 256 false
def ql (c : aI Va) (v : List Int) : Option (List Int) := (aN c.aA).bind fun _ => (stK v c.aA 0 at257).bind fun a => (aN c.fields).bind fun _ => (stF v c.aA.length c.fields 0 a).bind fun a => stO a 256 0 []
theorem starts_ok {c : aI Va} {v : List Int} {r : List Int} (hm : ql c v = some r) : Has Tryz.prog 216 [.agg (aF eVa c), .lst false (v.map bt)] fun s => s = .lst false (r.map eByte) := by
 refine hs aa Tryz.f216 ?_
 unfold ql at hm
 refine z ?_
 obtain ⟨hg1, hm⟩ := aj hm
 obtain ⟨v2, hv2, hm⟩ := ae hm
 refine lg (α := Nat × List Bool) aa (fun (iw, s1) => (stK (v) (List.drop iw (c.aA)) (iw : Int) s1 = some v2, ⟨105, [(19, .int .i64 iw), (18, .int .i64 ↑c.aA.length), (17, .lst false (List.map (cQ eVa) c.aA)), (5, .ptr 1 0), (4, .az), (2, .ptr 0 0), (1, .lst false (List.map bt v))]⟩, ⟨[(1, .cells (s1.map .bool)), (0, .cells (aF eVa c))], 2, 0, [], []⟩, List.length (c.aA) - iw)) ⟨(0, _), hv2⟩ ?_
 rintro ⟨i2, s1_2⟩ hq2
 dsimp only at hq2
 refine z ?_
 refine bkd (fun h3 => z ?_) (fun h3 => z ?_)
 obtain ⟨x3, ex3, ed3⟩ := au h3
 rw [ed3, stK] at hq2
 refine z ?_
 refine bo (bY _) ex3 rfl (z ?_)
 obtain ⟨j4, x4, en4, ex4, hq2⟩ := aB hq2
 refine bf en4 ex4 rfl (z ?_)
 refine bkd (fun h5 => z ?_) (fun h5 => z ?_)
 rw [if_pos h5] at hq2
 exact bk ⟨(i2 + 1, _), hq2⟩
 rw [if_neg h5] at hq2
 refine dg aa [0,1,3,0,0,24,56,127,255,511,1023,0] [] (z ?_)
 refine bf en4 ex4 rfl (z ?_)
 obtain ⟨j6, x6, en6, ex6, hq2⟩ := aB hq2
 refine bf en6 ex6 rfl (z ?_)
 obtain ⟨hg7, hq2⟩ := aj hq2
 obtain ⟨v8, hv8, hq2⟩ := ae hq2
 refine lg (α := Nat × List Bool) aa (fun (iw, s1) => (stE (List.drop iw (x6.aL)) s1 = some v8, ⟨105, [(40, .int .i64 iw), (39, .int .i64 ↑x6.aL.length), (38, .lst false (List.map ck x6.aL)), (19, .int .i64 ↑i2), (18, .int .i64 ↑c.aA.length), (17, .lst false (List.map (cQ eVa) c.aA)), (5, .ptr 1 0), (4, .az), (2, .ptr 0 0), (1, .lst false (List.map bt v))]⟩, ⟨[(2, .cells (ep x3)), (1, .cells (s1.map .bool)), (0, .cells (aF eVa c))], 3, 0, [], []⟩, List.length (x6.aL) - iw)) ⟨(0, _), hv8⟩ ?_
 rintro ⟨i8, s1_8⟩ hq8
 dsimp only at hq8
 refine z ?_
 refine bkd (fun h9 => z ?_) (fun h9 => z ?_)
 obtain ⟨x9, ex9, ed9⟩ := au h9
 rw [ed9, stE] at hq8
 refine z ?_
 obtain ⟨hg10, hq8⟩ := aj hq8
 refine a6 ex9 rfl (z ?_)
 refine dg aa [0,1,0,4,12,28,3,67,255,511] [⟨9,0,0,[1]⟩,⟨7,0,0,[1]⟩] (z ?_)
 obtain ⟨j13, x13, en13, ej13, ex13, hq8⟩ := dF hq8
 refine b5 en13 ej13 (z ?_)
 rw [c9 ex13 (by (show _ + _ * 1 = _; omega))]
 refine z ?_
 obtain ⟨j14, x14, en14, ej14, ex14, hq8⟩ := dF hq8
 refine b5 en14 ej14 (z ?_)
 rw [c9 ex14 (by (show _ + _ * 1 = _; omega))]
 refine z ?_
 exact bk ⟨(i8 + 1, _), hq8⟩
 rw [av h9, stE] at hq8
 cases hq8
 refine z ?_
 exact bk ⟨(i2 + 1, _), hq2⟩
 rw [av h3, stK] at hq2
 cases hq2
 refine z ?_
 obtain ⟨hg15, hm⟩ := aj hm
 refine a8 rfl rfl ?_
 obtain ⟨v16, hv16, hm⟩ := ae hm
 refine lg (α := Nat × List Bool) aa (fun (iw, s1) => (stF (v) (↑c.aA.length) (List.drop iw (c.fields)) (iw : Int) s1 = some v16, ⟨105, [(57, .int .i64 iw), (56, .int .i64 ↑c.fields.length), (55, .lst false (List.map (cC eVa) c.fields)), (5, .ptr 1 0), (4, .az), (2, .ptr 0 0), (1, .lst false (List.map bt v))]⟩, ⟨[(1, .cells (s1.map .bool)), (0, .cells (aF eVa c))], 2, 0, [], []⟩, List.length (c.fields) - iw)) ⟨(0, _), hv16⟩ ?_
 rintro ⟨i16, s1_16⟩ hq16
 dsimp only at hq16
 refine z ?_
 refine bkd (fun h17 => z ?_) (fun h17 => z ?_)
 obtain ⟨x17, ex17, ed17⟩ := au h17
 rw [ed17, stF] at hq16
 refine z ?_
 refine bo (cq _) ex17 rfl (z ?_)
 obtain ⟨j18, x18, en18, ex18, hq16⟩ := aB hq16
 refine bf en18 ex18 rfl (z ?_)
 refine bkd (fun h19 => z ?_) (fun h19 => z ?_)
 rw [if_pos h19] at hq16
 obtain ⟨hg20, hq16⟩ := aj hq16
 refine bkd (fun h21 => z ?_) (fun h21 => z ?_)
 rw [if_pos h21] at hq16
 refine dg aa [0,1,0,7,0,16,0,112,240,496,15,1039,4095,8191] [⟨13,0,0,[1]⟩,⟨11,0,0,[1]⟩] (z ?_)
 obtain ⟨j25, x25, en25, ex25, hq16⟩ := aB hq16
 refine ⟨_, _, en25, ex25, ?_⟩
 refine z ?_
 refine ⟨_, _, en25, ex25, ?_⟩
 refine z ?_
 refine ⟨⟨by have := UInt8.toNat_lt (x25); omega, by have := UInt8.toNat_lt (x25); omega⟩, ?_⟩
 refine z ?_
 refine ⟨⟨by have := UInt8.toNat_lt (x25); omega, by have := UInt8.toNat_lt (x25); omega⟩, ?_⟩
 refine z ?_
 obtain ⟨j26, x26, en26, ej26, ex26, hq16⟩ := dF hq16
 refine b5 en26 ej26 (z ?_)
 rw [c9 ex26 (by (show _ + _ * 1 = _; omega))]
 refine z ?_
 obtain ⟨j27, x27, en27, ej27, ex27, hq16⟩ := dF hq16
 refine b5 en27 ej27 (z ?_)
 rw [c9 ex27 (by (show _ + _ * 1 = _; omega))]
 refine z ?_
 exact bk ⟨(i16 + 1, _), hq16⟩
 rw [if_neg h21] at hq16
 exact bk ⟨(i16 + 1, _), hq16⟩
 rw [if_neg h19] at hq16
 exact bk ⟨(i16 + 1, _), hq16⟩
 rw [av h17, stF] at hq16
 cases hq16
 refine z ?_
 refine a8 rfl rfl ?_
 refine b0 13 1 rfl ?_
 refine lg (α := Nat × List Int × Nat) aa (fun (iw, s1, ts1) => (stO (v16) (256 - iw) (iw : Int) s1 = some r, ⟨105, [(13, .own 2 ts1), (92, .int .i64 iw), (5, .ptr 1 0), (4, .az)]⟩, ⟨[(2, .row 1 (s1.map eByte) ts1 false), (1, .cells ((v16).map .bool)), (0, .cells (aF eVa c))], 3, 0, [], []⟩, (256) - iw)) ⟨(0, _, (0)), hm⟩ ?_
 rintro ⟨i28, s1_28, ts1_28⟩ hq28
 dsimp only at hq28
 refine z ?_
 refine bkd (fun h29 => z ?_) (fun h29 => z ?_)
 have h29' : (i28 : Int) < (((256) : Nat) : Int) := by (try simp only [List.length_map, List.length_replicate, List.length_set, List.length_append] at h29); omega
 rw [cB h29', stO] at hq28
 refine z ?_
 obtain ⟨j30, x30, en30, ej30, ex30, hq28⟩ := gB hq28
 refine b5 en30 ej30 (z ?_)
 rw [dO ex30 (by (show _ + _ * 1 = _; omega)) rfl]
 refine z ?_
 refine brk (fun h31 => z ?_) (fun h31 => z ?_)
 rw [if_pos h31] at hq28
 obtain ⟨hg32, hq28⟩ := aj hq28
 obtain ⟨hg33, hq28⟩ := aD hq28
 refine z ?_
 refine aH (↑i28) rfl (z ?_)
 exact bk ⟨(i28 + 1, _, (ts1_28 + 1)), hq28⟩
 rw [if_neg (nt h31)] at hq28
 exact bk ⟨(i28 + 1, _, (ts1_28)), hq28⟩
 have h29' : ¬ (i28 : Int) < (((256) : Nat) : Int) := by (try simp only [List.length_map, List.length_replicate, List.length_set, List.length_append] at h29); omega
 rw [cA h29', stO] at hq28
 refine z ?_
 cases hq28
 refine cP (z ?_)
 first | exact e2 | exact rfl
def afZ : Nat → Int → List Int → Option (List Int)
 | 0, _, out => some out
 | n + 1, i, out => (iL out i (-1)).bind fun out => afZ n (i + 1) out
def afE (b i : Int) : List Sv.Edge → List Int → Option (List Int)
 | [], out => some out
 | e :: r, out => if e.lo ≤ b then if b ≤ e.hi then (iL out i e.to).bind fun out => afE b i r out else afE b i r out else afE b i r out
def afK (v : List Int) (b : Int) : List (Cls Va) → Int → List Int → Option (List Int)
 | [], _, out => some out
 | k :: r, i, out => (atI v i).bind fun s => if s < 0 then afK v b r (i + 1) out else (atI k.set s).bind fun x => (aN x.aL).bind fun _ => (afE b i x.aL out).bind fun out => afK v b r (i + 1) out
def afF (v : List Int) (b m : Int) : List (Fld Va) → Int → List Int → Option (List Int)
 | [], _, out => some out
 | f :: r, i, out => (atI v (m + i)).bind fun n => if n ≥ 0 then (aN f.label).bind fun _ => if n < (f.label.length : Int) then
   (atI f.label n).bind fun c => if (c.toNat : Int) = b then (cX (n + 1)).bind fun _ => (iL out (m + i) (n + 1)).bind fun out => afF v b m r (i + 1) out else afF v b m r (i + 1) out else afF v b m r (i + 1) out else afF v b m r (i + 1) out
def aftV (c : aI Va) (v : List Int) (b : Int) : Option (List Int) := (ltG v).bind fun _ => (afZ v.length 0 (List.replicate v.length 0)).bind fun out => (aN c.aA).bind fun _ => (afK v b c.aA 0 out).bind fun out => (aN c.fields).bind fun _ => afF v b c.aA.length c.fields 0 out
theorem aftV_ok {c : aI Va} {v : List Int} {b : Int} {r : List Int} (hm : aftV c v b = some r) : Has Tryz.prog 217 [.agg (aF eVa c), .lst false (v.map bt), .int .u8 b] fun s => s = .lst false (r.map bt) := by
 refine hs aa Tryz.f217 ?_
 unfold aftV at hm
 refine z ?_
 obtain ⟨hg1, hm⟩ := aj hm
 refine ⟨_, _, rfl, rfl, Nat.le_refl _, by omega, ?_⟩
 refine z ?_
 refine gU bt (v.length) (0) (by first | rfl | simp only [List.length_map]) rfl (z ?_)
 obtain ⟨v2, hv2, hm⟩ := ae hm
 refine lg (α := Nat × List Int × Nat) aa (fun (iw, s1, ts1) => (afZ (v.length - iw) (iw : Int) s1 = some v2, ⟨115, [(22, .int .i64 iw), (21, .int .i64 ↑v.length), (7, .own 1 ts1), (6, .az), (3, .ptr 0 0), (1, .lst false (List.map bt v)), (2, .int .u8 b)]⟩, ⟨[(1, .row 1 (s1.map bt) ts1 false), (0, .cells (aF eVa c))], 2, 0, [], []⟩, (v.length) - iw)) ⟨(0, _, (0)), hv2⟩ ?_
 rintro ⟨i2, s1_2, ts1_2⟩ hq2
 dsimp only at hq2
 refine z ?_
 refine bkd (fun h3 => z ?_) (fun h3 => z ?_)
 have h3' : (i2 : Int) < (((v.length) : Nat) : Int) := by (try simp only [List.length_map, List.length_replicate, List.length_set, List.length_append] at h3); omega
 rw [cB h3', afZ] at hq2
 refine z ?_
 obtain ⟨j4, x4, en4, ex4, hq2⟩ := cF hq2
 refine aK en4 ex4 (z ?_)
 refine bT _ (-1) ex4 rfl (z ?_)
 exact bk ⟨(i2 + 1, _, (ts1_2)), hq2⟩
 have h3' : ¬ (i2 : Int) < (((v.length) : Nat) : Int) := by (try simp only [List.length_map, List.length_replicate, List.length_set, List.length_append] at h3); omega
 rw [cA h3', afZ] at hq2
 cases hq2
 refine z ?_
 obtain ⟨hg5, hm⟩ := aj hm
 refine a8 rfl rfl ?_
 obtain ⟨v6, hv6, hm⟩ := ae hm
 refine lg (α := Nat × List Int × Nat) aa (fun (iw, s1, ts1) => (afK (v) (b) (List.drop iw (c.aA)) (iw : Int) s1 = some v6, ⟨115, [(32, .int .i64 iw), (31, .int .i64 ↑c.aA.length), (30, .lst false (List.map (cQ eVa) c.aA)), (7, .own 1 ts1), (6, .az), (3, .ptr 0 0), (1, .lst false (List.map bt v)), (2, .int .u8 b)]⟩, ⟨[(1, .row 1 (s1.map bt) ts1 false), (0, .cells (aF eVa c))], 2, 0, [], []⟩, List.length (c.aA) - iw)) ⟨(0, _, (ts1_2)), hv6⟩ ?_
 rintro ⟨i6, s1_6, ts1_6⟩ hq6
 dsimp only at hq6
 refine z ?_
 refine bkd (fun h7 => z ?_) (fun h7 => z ?_)
 obtain ⟨x7, ex7, ed7⟩ := au h7
 rw [ed7, afK] at hq6
 refine z ?_
 refine bo (bY _) ex7 rfl (z ?_)
 obtain ⟨j8, x8, en8, ex8, hq6⟩ := aB hq6
 refine bf en8 ex8 rfl (z ?_)
 refine bkd (fun h9 => z ?_) (fun h9 => z ?_)
 rw [if_pos h9] at hq6
 exact bk ⟨(i6 + 1, _, (ts1_6)), hq6⟩
 rw [if_neg h9] at hq6
 refine dg aa [0,1,3,0,0,24,56,127,255,511,1023,0] [] (z ?_)
 refine bf en8 ex8 rfl (z ?_)
 obtain ⟨j10, x10, en10, ex10, hq6⟩ := aB hq6
 refine bf en10 ex10 rfl (z ?_)
 obtain ⟨hg11, hq6⟩ := aj hq6
 obtain ⟨v12, hv12, hq6⟩ := ae hq6
 refine lg (α := Nat × List Int × Nat) aa (fun (iw, s1, ts1) => (afE (b) (↑i6) (List.drop iw (x10.aL)) s1 = some v12, ⟨115, [(53, .int .i64 iw), (52, .int .i64 ↑x10.aL.length), (51, .lst false (List.map ck x10.aL)), (9, .int .i64 ↑i6), (32, .int .i64 ↑i6), (31, .int .i64 ↑c.aA.length), (30, .lst false (List.map (cQ eVa) c.aA)), (7, .own 1 ts1), (6, .az), (3, .ptr 0 0), (1, .lst false (List.map bt v)), (2, .int .u8 b)]⟩, ⟨[(2, .cells (ep x7)), (1, .row 1 (s1.map bt) ts1 false), (0, .cells (aF eVa c))], 3, 0, [], []⟩, List.length (x10.aL) - iw)) ⟨(0, _, (ts1_6)), hv12⟩ ?_
 rintro ⟨i12, s1_12, ts1_12⟩ hq12
 dsimp only at hq12
 refine z ?_
 refine bkd (fun h13 => z ?_) (fun h13 => z ?_)
 obtain ⟨x13, ex13, ed13⟩ := au h13
 rw [ed13, afE] at hq12
 refine z ?_
 refine a6 ex13 rfl (z ?_)
 refine bkd (fun h14 => z ?_) (fun h14 => z ?_)
 rw [if_pos h14] at hq12
 refine bkd (fun h15 => z ?_) (fun h15 => z ?_)
 rw [if_pos h15] at hq12
 obtain ⟨j16, x16, en16, ex16, hq12⟩ := cF hq12
 refine aK en16 ex16 (z ?_)
 refine bT _ (x13.to) ex16 rfl (z ?_)
 exact bk ⟨(i12 + 1, _, (ts1_12)), hq12⟩
 rw [if_neg h15] at hq12
 exact bk ⟨(i12 + 1, _, (ts1_12)), hq12⟩
 rw [if_neg h14] at hq12
 exact bk ⟨(i12 + 1, _, (ts1_12)), hq12⟩
 rw [av h13, afE] at hq12
 cases hq12
 refine z ?_
 exact bk ⟨(i6 + 1, _, (ts1_12)), hq6⟩
 rw [av h7, afK] at hq6
 cases hq6
 refine z ?_
 obtain ⟨hg17, hm⟩ := aj hm
 refine a8 rfl rfl ?_
 refine lg (α := Nat × List Int × Nat) aa (fun (iw, s1, ts1) => (afF (v) (b) (↑c.aA.length) (List.drop iw (c.fields)) (iw : Int) s1 = some r, ⟨115, [(77, .int .i64 iw), (76, .int .i64 ↑c.fields.length), (75, .lst false (List.map (cC eVa) c.fields)), (7, .own 1 ts1), (6, .az), (3, .ptr 0 0), (1, .lst false (List.map bt v)), (2, .int .u8 b)]⟩, ⟨[(1, .row 1 (s1.map bt) ts1 false), (0, .cells (aF eVa c))], 2, 0, [], []⟩, List.length (c.fields) - iw)) ⟨(0, _, (ts1_6)), hm⟩ ?_
 rintro ⟨i18, s1_18, ts1_18⟩ hq18
 dsimp only at hq18
 refine z ?_
 refine bkd (fun h19 => z ?_) (fun h19 => z ?_)
 obtain ⟨x19, n9, ed19⟩ := au h19
 rw [ed19, afF] at hq18
 refine z ?_
 refine bo (cq _) n9 rfl (z ?_)
 obtain ⟨j20, x20, en20, ex20, hq18⟩ := aB hq18
 refine bf en20 ex20 rfl (z ?_)
 refine bkd (fun h21 => z ?_) (fun h21 => z ?_)
 rw [if_pos h21] at hq18
 obtain ⟨hg22, hq18⟩ := aj hq18
 refine bkd (fun h23 => z ?_) (fun h23 => z ?_)
 rw [if_pos h23] at hq18
 obtain ⟨j24, x24, en24, ex24, hq18⟩ := aB hq18
 refine ⟨_, _, en24, ex24, ?_⟩
 refine z ?_
 refine bkd (fun h25 => z ?_) (fun h25 => z ?_)
 rw [if_pos h25] at hq18
 obtain ⟨hg26, hq18⟩ := aj hq18
 obtain ⟨j27, x27, en27, ex27, hq18⟩ := cF hq18
 refine aK en27 ex27 (z ?_)
 refine bT _ (x20 + 1) ex27 rfl (z ?_)
 exact bk ⟨(i18 + 1, _, (ts1_18)), hq18⟩
 rw [if_neg h25] at hq18
 exact bk ⟨(i18 + 1, _, (ts1_18)), hq18⟩
 rw [if_neg h23] at hq18
 exact bk ⟨(i18 + 1, _, (ts1_18)), hq18⟩
 rw [if_neg h21] at hq18
 exact bk ⟨(i18 + 1, _, (ts1_18)), hq18⟩
 rw [av h19, afF] at hq18
 cases hq18
 refine cP (z ?_)
 first | exact e2 | exact rfl
def zh (c : aI Va) (v : List Int) : List Int → List (List Int) → List (List UInt8 × Unit) → Option (List (List Int) × List (List UInt8 × Unit))
 | [], todo, seen => some (todo, seen)
 | b :: r, todo, seen => (aftV c v b).bind fun w => (vH w).bind fun k => match cn k seen with
  | some _ => zh c v r todo seen
  | none => (push todo w).bind fun todo => zh c v r todo (seen ++ [(k, ())])
def clsW (c : aI Va) : Nat → List (List Int) → List (List UInt8 × Unit) → Option Bool
 | 0, _, _ => none
 | n + 1, todo, seen => (aN todo).bind fun _ => if (todo.length : Int) > 0 then (atI todo (todo.length - 1)).bind fun v => (hits c v).bind fun h => if h = 1 then
   (ql c v).bind fun bs => (aN bs).bind fun _ => (zh c v bs (todo.take (todo.length - 1)) seen).bind fun p => clsW c n p.1 p.2
  else some false else some true
def clsFuel (c : aI Va) : Nat := 1000000000
def clsR (c : aI Va) : Option Bool := (aN c.aA).bind fun _ => (aN c.fields).bind fun _ => (grd (c.aA.length + c.fields.length < 1000000000)).bind fun _ =>
 (vH (List.replicate (c.aA.length + c.fields.length) 0)).bind fun k => clsW c (clsFuel c) [List.replicate (c.aA.length + c.fields.length) 0] [(k, ())]
def clsV (c : aI Va) : List (Cls Va) → Option Bool
 | [] => clsR c
 | k :: r => (aN k.set).bind fun _ => if (k.set.length : Int) = 0 then some false else (lG k.set).bind fun ok => if ok then clsV c r else some false
def clsM (c : aI Va) : Option Bool := (aN c.aA).bind fun _ => clsV c c.aA
theorem clsM_ok {c : aI Va} {r : Bool} (hm : clsM c = some r) : aY Tryz.prog 184 [.agg (aF eVa c)] fun s => s = .bool r := by
 refine ht aa Tryz.f184 ?_
 unfold clsM at hm
 refine z ?_
 obtain ⟨hg1, hm⟩ := aj hm
 refine lg (α := Nat) aa (fun iw => (clsV (c) (List.drop iw (c.aA)) = some r, ⟨89, [(15, .int .i64 iw), (14, .int .i64 ↑c.aA.length), (13, .lst false (List.map (cQ eVa) c.aA)), (2, .bool false), (1, .ptr 1 0)]⟩, ⟨[(1, .cells (aF eVa c)), (0, aS)], 2, 0, [], []⟩, List.length (c.aA) - iw)) ⟨(0), hm⟩ ?_
 intro i2 hq2
 dsimp only at hq2
 refine z ?_
 refine bkd (fun h3 => z ?_) (fun h3 => z ?_)
 obtain ⟨x3, ex3, ed3⟩ := au h3
 rw [ed3, clsV] at hq2
 refine z ?_
 obtain ⟨hg4, hq2⟩ := aj hq2
 refine bo (bY _) ex3 rfl (z ?_)
 refine bkd (fun h5 => z ?_) (fun h5 => z ?_)
 rw [if_pos h5] at hq2
 cases hq2
 exact mst
 rw [if_neg h5] at hq2
 obtain ⟨v6, e6, hq2⟩ := ae hq2
 refine ct (ny e6) (z ?_)
 refine bkm (fun h7 => z ?_) (fun h7 => z ?_)
 rw [if_neg (nt h7)] at hq2
 cases hq2
 exact mst
 rw [if_pos h7] at hq2
 exact bk ⟨i2 + 1, hq2⟩
 rw [av h3, clsV] at hq2
 unfold clsR at hq2
 refine z ?_
 obtain ⟨hg8, hq2⟩ := aj hq2
 obtain ⟨hg9, hq2⟩ := aj hq2
 obtain ⟨hg10, hq2⟩ := aj hq2
 refine z ?_
 refine ⟨_, _, rfl, rfl, Nat.le_refl _, by omega, ?_⟩
 refine z ?_
 refine gU bt (c.aA.length + c.fields.length) (0) (by first | rfl | simp only [List.length_map]) rfl (z ?_)
 refine b5 (j := 0) rfl (by simp) (z ?_)
 refine ⟨_, rfl, ?_⟩
 refine z ?_
 obtain ⟨v12, e12, hq2⟩ := ae hq2
 refine ct (key_ok e12) (z ?_)
 first | refine ⟨(fun p hp => by cases hp), .nil, ?_⟩ | refine ⟨by first | trivial | rfl, (fun p hp => by cases hp), .nil, ?_⟩
 refine z ?_
 refine lg (α := Nat × List (List Int) × List (List UInt8 × Unit) × Nat) aa (fun (nw, s1, s2, ts1) => (clsW (c) nw s1 s2 = some r, ⟨89, [(6, .map 4), (5, .own 3 ts1), (2, .bool false), (1, .ptr 1 0)]⟩, ⟨[(4, .map (gF .str (fun _ => .bool true) s2)), (3, .row 1 (s1.map eN) ts1 false), (2, .row 1 (List.map bt (List.replicate (c.aA.length + c.fields.length) 0)) 0 true), (1, .cells (aF eVa c)), (0, aS)], 5, 0, [], []⟩, nw)) ⟨(_, _, _, (0)), hq2⟩ ?_
 rintro ⟨n13, s1_13, s2_13, ts1_13⟩ hq13
 dsimp only at hq13
 rcases n13 with _ | n13
 (unfold clsW at hq13; cases hq13)
 unfold clsW at hq13
 refine z ?_
 obtain ⟨hg14, hq13⟩ := aj hq13
 refine bkd (fun h15 => z ?_) (fun h15 => z ?_)
 rw [if_pos h15] at hq13
 obtain ⟨j16, x16, en16, ex16, hq13⟩ := aB hq13
 refine aK en16 ex16 (z ?_)
 refine bw ex16 (z ?_)
 refine ⟨s1_13.length - 1, by omega, by simp only [List.length_map]; omega, ?_⟩
 refine z ?_
 refine as_take (z ?_)
 obtain ⟨v17, e17, hq13⟩ := ae hq13
 refine ce (hits_ok e17) (z ?_)
 refine bkn (fun h18 => z ?_) (fun h18 => z ?_)
 rw [if_neg h18] at hq13
 cases hq13
 exact mst
 rw [if_pos h18] at hq13
 obtain ⟨v19, e19, hq13⟩ := ae hq13
 refine ce (starts_ok e19) (z ?_)
 obtain ⟨hg20, hq13⟩ := aj hq13
 obtain ⟨v21, hv21, hq13⟩ := ae hq13
 refine lg (α := Nat × List (List Int) × List (List UInt8 × Unit) × Nat) aa (fun (iw, s1, s2, ts1) => (zh (c) (x16) (List.drop iw (v19)) s1 s2 = some v21, ⟨89, [(68, .int .i64 iw), (67, .int .i64 ↑v19.length), (66, .lst false (List.map eByte v19)), (5, .own 3 ts1), (7, .lst false (List.map bt x16)), (6, .map 4), (2, .bool false), (1, .ptr 1 0)]⟩, ⟨[(4, .map (gF .str (fun _ => .bool true) s2)), (3, .row 1 (s1.map eN) ts1 false), (2, .row 1 (List.map bt (List.replicate (c.aA.length + c.fields.length) 0)) 0 true), (1, .cells (aF eVa c)), (0, aS)], 5, 0, [], []⟩, List.length (v19) - iw)) ⟨(0, _, _, (ts1_13 + 1)), hv21⟩ ?_
 rintro ⟨i21, s1_21, s2_21, ts1_21⟩ hq21
 dsimp only at hq21
 refine z ?_
 refine bkd (fun h22 => z ?_) (fun h22 => z ?_)
 obtain ⟨x22, ex22, ed22⟩ := au h22
 rw [ed22, zh] at hq21
 refine z ?_
 refine a6 ex22 rfl (z ?_)
 obtain ⟨v23, e23, hq21⟩ := ae hq21
 refine ce (aftV_ok e23) (z ?_)
 obtain ⟨v24, e24, hq21⟩ := ae hq21
 refine ct (key_ok e24) (z ?_)
 refine kV (kf := SVal.str) (g := fun x => SVal.bool true) (fun ef25 => ?_) (fun v25 q25 ef25 => ?_)
 rw [ef25] at hq21
 dsimp only at hq21
 refine z ?_
 refine (z6 (kf := SVal.str) (g := fun x => SVal.bool true) (v := ()) (by assumption) ?_).2.2
 refine z ?_
 obtain ⟨hg26, hq21⟩ := aD hq21
 refine z ?_
 refine aH (v23) rfl (z ?_)
 exact bk ⟨(i21 + 1, _, _, (ts1_21 + 1)), hq21⟩
 rw [ef25] at hq21
 dsimp only at hq21
 refine z ?_
 exact bk ⟨(i21 + 1, _, _, (ts1_21)), hq21⟩
 rw [av h22, zh] at hq21
 cases hq21
 dsimp only at hq13
 refine z ?_
 exact bk ⟨(n13, _, _, (ts1_21)), hq13⟩
 rw [if_neg h15] at hq13
 cases hq13
 exact mst
end Go.Proofs.YtmjddpeookapaaaGreatDoor
