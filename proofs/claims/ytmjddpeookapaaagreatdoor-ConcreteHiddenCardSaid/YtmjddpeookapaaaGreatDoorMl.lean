/- For ConcreteHidden: functions of the program, walked beside Lean functions that say what they compute. -/
import Derived.Test.YtmjddpeookapaaaGreatDoorEn
import Derived.KernelRfl
import Derived.Test.YtmjddpeookapaaaGreatDoorMk
import Derived.Test.YtmjddpeookapaaaGreatDoorSvG
set_option linter.unusedVariables false
set_option linter.unusedSimpArgs false
set_option linter.unusedSectionVars false
namespace Go.Proofs.YtmjddpeookapaaaGreatDoor
open Sv
set_option maxRecDepth 100000
set_option maxHeartbeats 2000000
structure Stp where
 label : List UInt8
 index : Int
structure bZ where
 path : List Stp
 jO : Int
def gY (s : Stp) : List SVal := [.str s.label, .int .i64 s.index]
instance : Cl gY := ⟨fun _ => rfl⟩
def fU (p : bZ) : List SVal := [.lst false (p.path.map gY), .int .i64 p.jO]
instance : Cl fU := ⟨fun p => by simp only [fU, aw, closed, clR gY, Bool.and_self]⟩
def px (ps : List bZ) (path : List Stp) (e : Int) : Option (List bZ) := (push ps ⟨path, e⟩).bind fun ps => some ps
theorem b9 {ps r : List bZ} {path : List Stp} {e : Int} {hid : Bool} (hm : px ps path e = some r) : pg Tryz.prog 26 2 [.bool hid] (ps.map fU) [.ptr 1 0, .lst false (path.map gY), .int .i64 e] fun s r' => s = .tup [] ∧ r' = r.map fU := by
 refine kQ aa (fn := Tryz.f26) rfl rfl (clR _ _) (by simp only [nb, nbL, cz, b7, Bool.and_self]; rfl) (fun t => ?_)
 unfold px at hm
 refine z ?_
 obtain ⟨hg1, hm⟩ := aD hm
 refine z ?_
 refine aH ({ path := path, jO := e }) rfl (z ?_)
 cases hm
 exact msl
abbrev fS := Va → List Stp → List bZ → Option (Dat × List bZ)
abbrev VisP (hid : Bool) (rec : fS) : Prop := ∀ {x path ps r}, rec x path ps = some r → pg Tryz.prog 27 2 [.bool hid] (ps.map fU) [.ptr 1 0, .agg (uVa x), .lst false (path.map gY)] fun s r' => s = .agg (dw r.1) ∧ r' = r.2.map fU
def nr (rec : fS) (path : List Stp) : List Va → Int → List bZ → List Dat → Option (Dat × List bZ)
 | [], _, ps, out => some (.mk ⟨5, 0, [], out, []⟩, ps)
 | x :: r, i, ps, out => (aN path).bind fun _ => (push path ⟨[], i⟩).bind fun p => (rec x p ps).bind fun q => (push out q.1).bind fun out => nr rec path r (i + 1) q.2 out
def tC (rec : fS) (c : aT Va) (path : List Stp) (ps : List bZ) : Option (Dat × List bZ) := (aN c.rest).bind fun _ => if (c.rest.length : Int) > 0 then (px ps path 14).bind fun ps => some (.mk ⟨5, 0, [], [], []⟩, ps)
 else (aN c.items).bind fun _ => nr rec path c.items 0 ps []
theorem wU {hid : Bool} {rec : fS} (h : VisP hid rec) {c : aT Va} {path : List Stp} {ps : List bZ} {r : Dat × List bZ} (hm : tC rec c path ps = some r) : pg Tryz.prog 43 2 [.bool hid] (ps.map fU) [.ptr 1 0, .agg (aO eVa c), .lst false (path.map gY)] fun s r' => s = .agg (dw r.1) ∧ r' = r.2.map fU := by
 refine kQ aa (fn := Tryz.f43) rfl rfl (clR _ _) (by simp only [nb, nbL, cz, b7, Bool.and_self]; rfl) (fun t => ?_)
 unfold tC at hm
 rcases path with _ | ⟨p0, path⟩
 refine z ?_
 obtain ⟨hg1, hm⟩ := aj hm
 refine bkd (fun h2 => z ?_) (fun h2 => z ?_)
 rw [if_pos h2] at hm
 obtain ⟨v3, e3, hm⟩ := ae hm
 refine aX 1 2 (t) (b9 e3) rfl rfl rfl rfl rfl (fun t3 => ?_)
 refine z ?_
 cases hm
 refine aR (z ?_)
 exact ml
 rw [if_neg h2] at hm
 obtain ⟨hg4, hm⟩ := aj hm
 refine bj 5 3 5 rfl rfl ?_
 refine lg (α := Nat × List bZ × List Dat × Nat × Nat) aa (fun (iw, s1, s2, ts1, ts2) => (nr (rec) ([]) (List.drop iw (c.items)) (iw : Int) s1 s2 = some r, ⟨45, [(24, .int .i64 iw), (23, .int .i64 ↑c.items.length), (22, .lst false (List.map eVa c.items)), (7, .ptr 5 0), (6, .ptr 4 0), (0, .ptr 1 0), (2, .lst false (List.map gY []))]⟩, ⟨[(6, .row 5 (s2.map dk) ts2 false), (5, .cells [.int .i64 5, .int .i64 0, .str #[].toList, .own 6 ts2, .az]), (4, .cells [.int .i64 0, .int .i64 0, .str #[].toList, .az, .az]), (3, .cells (aO eVa c)), (0, aS), (1, .cells [.own 2 ts1, .bool hid]), (2, .row 2 (s1.map fU) ts1 false)], 7, 0, [], []⟩, List.length (c.items) - iw)) ⟨(0, _, _, (t), (0)), hm⟩ ?_
 rintro ⟨i5, s1_5, s2_5, ts1_5, ts2_5⟩ hq5
 dsimp only at hq5
 refine z ?_
 refine bkd (fun h6 => z ?_) (fun h6 => z ?_)
 obtain ⟨x6, ex6, ed6⟩ := au h6
 rw [ed6, nr] at hq5
 refine z ?_
 obtain ⟨hg7, hq5⟩ := aj hq5
 refine bo (bX _) ex6 rfl (z ?_)
 refine dg aa [0,1,0,0,0,16,0,64,192,496,1020,2044,4095,8191,16383] [⟨14,0,0,[5]⟩,⟨12,0,0,[6]⟩,⟨10,0,0,[2,1,9]⟩] (z ?_)
 refine ce lC (z ?_)
 obtain ⟨hg11, hq5⟩ := aD hq5
 refine z ?_
 refine wB gY ({ label := [], index := ↑i5 }) rfl (z ?_)
 obtain ⟨v12, e12, hq5⟩ := ae hq5
 refine cN 1 2 (ts1_5) (h e12) (by simp only [aw, closed, aJ, clR, cl, cY, Bool.and_self]) rfl (z ?_)
 intro t12
 refine z ?_
 obtain ⟨hg13, hq5⟩ := aD hq5
 refine z ?_
 refine aH (v12.fst) (dV _) (z ?_)
 exact bk ⟨(i5 + 1, _, _, (t12), (ts2_5 + 1)), hq5⟩
 rw [av h6, nr] at hq5
 cases hq5
 refine aR (z ?_)
 exact ml
 refine z ?_
 obtain ⟨hg1, hm⟩ := aj hm
 refine bkd (fun h2 => z ?_) (fun h2 => z ?_)
 rw [if_pos h2] at hm
 obtain ⟨v3, e3, hm⟩ := ae hm
 refine aX 1 2 (t) (b9 e3) (by simp only [bV, bz, bx]; rfl) rfl rfl rfl rfl (fun t3 => ?_)
 refine z ?_
 cases hm
 refine aR (z ?_)
 exact ml
 rw [if_neg h2] at hm
 obtain ⟨hg4, hm⟩ := aj hm
 refine bj 5 3 5 rfl rfl ?_
 refine lg (α := Nat × List bZ × List Dat × Nat × Nat) aa (fun (iw, s1, s2, ts1, ts2) => (nr (rec) (p0 :: path) (List.drop iw (c.items)) (iw : Int) s1 s2 = some r, ⟨45, [(24, .int .i64 iw), (23, .int .i64 ↑c.items.length), (22, .lst false (List.map eVa c.items)), (7, .ptr 5 0), (6, .ptr 4 0), (0, .ptr 1 0), (2, .lst false (List.map gY (p0 :: path)))]⟩, ⟨[(6, .row 5 (s2.map dk) ts2 false), (5, .cells [.int .i64 5, .int .i64 0, .str #[].toList, .own 6 ts2, .az]), (4, .cells [.int .i64 0, .int .i64 0, .str #[].toList, .az, .az]), (3, .cells (aO eVa c)), (0, aS), (1, .cells [.own 2 ts1, .bool hid]), (2, .row 2 (s1.map fU) ts1 false)], 7, 0, [], []⟩, List.length (c.items) - iw)) ⟨(0, _, _, (t), (0)), hm⟩ ?_
 rintro ⟨i5, s1_5, s2_5, ts1_5, ts2_5⟩ hq5
 dsimp only at hq5
 refine z ?_
 refine bkd (fun h6 => z ?_) (fun h6 => z ?_)
 obtain ⟨x6, ex6, ed6⟩ := au h6
 rw [ed6, nr] at hq5
 refine z ?_
 obtain ⟨hg7, hq5⟩ := aj hq5
 refine bo (bX _) ex6 rfl (z ?_)
 refine dg aa [0,1,0,0,0,16,0,64,192,496,1020,2044,4095,8191,16383] [⟨14,0,0,[5]⟩,⟨12,0,0,[6]⟩,⟨10,0,0,[2,1,8]⟩,⟨9,0,0,[8]⟩] (z ?_)
 refine cd aa Tryz.f61 (z ?_)
 refine sA (z ?_)
 refine ed (z ?_)
 obtain ⟨hg12, hq5⟩ := aD hq5
 refine z ?_
 refine aH ({ label := [], index := ↑i5 }) rfl (z ?_)
 obtain ⟨v14, e14, hq5⟩ := ae hq5
 refine cN 1 2 (ts1_5) (h e14) (by simp only [aw, closed, aJ, clR, cl, cY, Bool.and_self]) rfl (z ?_)
 intro t14
 refine z ?_
 obtain ⟨hg15, hq5⟩ := aD hq5
 refine z ?_
 refine aH (v14.fst) (dV _) (z ?_)
 exact bk ⟨(i5 + 1, _, _, (t14), (ts2_5 + 1)), hq5⟩
 rw [av h6, nr] at hq5
 cases hq5
 refine aR (z ?_)
 exact ml
def mI (hid : Bool) (w : List UInt8) : Option Bool := if hid then some false else if w = [] then some false else (atI w 0).bind fun b => if (b.toNat : Int) = 95 then some true else if (b.toNat : Int) = 35 then some true else some false
def vsB (hid : Bool) (rec : fS) (path p : List Stp) (f : Fld Va) (ps : List bZ) (out : List (Mem Dat)) : Option (List bZ × List (Mem Dat)) :=
 (mI hid f.label).bind fun l => if l then some (ps, out) else if f.label = [] then if f.fe = 1 then
   (rec f.val [] []).bind fun q => (push out ⟨[], q.1⟩).bind fun out => (aN q.2).bind fun _ => if (q.2.length : Int) > 0 then (atI q.2 0).bind fun e => (px ps path e.jO).bind fun ps => some (ps, out) else some (ps, out)
  else if f.fe = 2 then (px ps p 13).bind fun ps => some (ps, out) else (rec f.val p ps).bind fun q => (push out ⟨f.label, q.1⟩).bind fun out => some (q.2, out)
 else if f.fe = 2 then (px ps p 13).bind fun ps => some (ps, out) else (rec f.val p ps).bind fun q => (push out ⟨f.label, q.1⟩).bind fun out => some (q.2, out)
def vsL (hid : Bool) (rec : fS) (path : List Stp) : List (Fld Va) → List bZ → List (Mem Dat) → Option (Dat × List bZ)
 | [], ps, out => some (.mk ⟨6, 0, [], [], out⟩, ps)
 | f :: r, ps, out => (aN path).bind fun _ => (push path ⟨f.label, 0⟩).bind fun p => if f.label = [] then (vsB hid rec path path f ps out).bind fun q => vsL hid rec path r q.1 q.2 else (vsB hid rec path p f ps out).bind fun q => vsL hid rec path r q.1 q.2
def tA (hid : Bool) (rec : fS) (c : aI Va) (path : List Stp) (ps : List bZ) : Option (Dat × List bZ) := (aN c.fields).bind fun _ => vsL hid rec path c.fields ps []
theorem wS {hid : Bool} {rec : fS} (h : VisP hid rec) {c : aI Va} {path : List Stp} {ps : List bZ} {r : Dat × List bZ} (hm : tA hid rec c path ps = some r) : pg Tryz.prog 44 2 [.bool hid] (ps.map fU) [.ptr 1 0, .agg (aF eVa c), .lst false (path.map gY)] fun s r' => s = .agg (dw r.1) ∧ r' = r.2.map fU := by
 refine kQ aa (fn := Tryz.f44) rfl rfl (clR _ _) (by simp only [nb, nbL, cz, b7, Bool.and_self]; rfl) (fun t => ?_)
 unfold tA at hm
 rcases path with _ | ⟨p0, path⟩
 refine z ?_
 obtain ⟨hg1, hm⟩ := aj hm
 refine bj 5 4 6 rfl rfl ?_
 refine lg (α := Nat × List bZ × List (Mem Dat) × Nat × Nat) aa (fun (iw, s1, s2, ts1, ts2) => (vsL (hid) (rec) ([]) (List.drop iw (c.fields)) s1 s2 = some r, ⟨105, [(16, .int .i64 iw), (15, .int .i64 ↑c.fields.length), (14, .lst false (List.map (cC eVa) c.fields)), (7, .ptr 5 0), (6, .ptr 4 0), (0, .ptr 1 0), (2, .lst false (List.map gY []))]⟩, ⟨[(6, .row 6 (s2.map (jn dk)) ts2 false), (5, .cells [.int .i64 6, .int .i64 0, .str #[].toList, .az, .own 6 ts2]), (4, .cells [.int .i64 0, .int .i64 0, .str #[].toList, .az, .az]), (3, .cells (aF eVa c)), (0, aS), (1, .cells [.own 2 ts1, .bool hid]), (2, .row 2 (s1.map fU) ts1 false)], 7, 0, [], []⟩, List.length (c.fields) - iw)) ⟨(0, _, _, (t), (0)), hm⟩ ?_
 rintro ⟨i2, s1_2, s2_2, ts1_2, ts2_2⟩ hq2
 dsimp only at hq2
 refine z ?_
 refine bkd (fun h3 => z ?_) (fun h3 => z ?_)
 obtain ⟨x3, ex3, ed3⟩ := au h3
 rw [ed3, vsL] at hq2
 refine z ?_
 obtain ⟨hg4, hq2⟩ := aj hq2
 refine bo (cq _) ex3 rfl (z ?_)
 refine dg aa [0,1,0,4,12,28,63,127] [] (z ?_)
 refine ce lC (z ?_)
 obtain ⟨hg5, hq2⟩ := aD hq2
 refine z ?_
 refine wB gY ({ label := x3.label, index := 0 }) rfl (z ?_)
 refine bkd (fun h6 => z ?_) (fun h6 => z ?_)
 rw [if_pos h6] at hq2
 unfold vsB at hq2
 rw [Option.bind_assoc] at hq2
 unfold mI at hq2
 refine z ?_
 refine ci aa Tryz.f62 (z ?_)
 refine bkm (fun h7 => z ?_) (fun h7 => z ?_)
 rw [if_neg (nt h7)] at hq2
 rw [if_pos h6] at hq2
 dsimp only [Option.bind_some] at hq2
 rw [if_neg Bool.false_ne_true] at hq2
 rw [if_pos h6] at hq2
 refine bnf h6 (z ?_)
 refine ei (z ?_)
 refine bdt h6 (z ?_)
 refine bkd (fun h8 => z ?_) (fun h8 => z ?_)
 rw [if_pos h8] at hq2
 rw [Option.bind_assoc] at hq2
 refine z ?_
 refine dg aa [0,1,0,0,8,28,60,124,255,511,1023] [⟨10,0,0,[5]⟩,⟨8,0,0,[6]⟩,⟨5,0,0,[10,10]⟩] (z ?_)
 obtain ⟨v11, e11, hq2⟩ := ae hq2
 refine ez 10 0 2 rfl rfl ?_ rfl
 refine z ?_
 refine aX 10 11 (0) (h e11) (by simp only [bV, bz, bx]; rfl) rfl rfl rfl rfl (fun t11 => ?_)
 rw [Option.bind_assoc] at hq2
 refine z ?_
 obtain ⟨hg12, hq2⟩ := aD hq2
 rw [Option.bind_assoc] at hq2
 refine z ?_
 refine aH ({ label := [], data := v11.fst }) (bQ _) (z ?_)
 obtain ⟨hg13, hq2⟩ := aj hq2
 refine bkd (fun h14 => z ?_) (fun h14 => z ?_)
 rw [if_pos h14] at hq2
 rw [Option.bind_assoc] at hq2
 refine z ?_
 refine dg aa [0,1,3,0,0,16,48,112,240,496,1008,2032,4095] [] (z ?_)
 obtain ⟨j15, x15, en15, ex15, hq2⟩ := aB hq2
 refine aK en15 ex15 ?_
 rw [Option.bind_assoc] at hq2
 refine z ?_
 refine bw ex15 (z ?_)
 obtain ⟨v16, e16, hq2⟩ := ae hq2
 refine aX 1 2 (ts1_2) (b9 (hid := hid) e16) rfl rfl rfl rfl rfl (fun t16 => ?_)
 dsimp only [Option.bind_some] at hq2
 refine z ?_
 exact bk ⟨(i2 + 1, _, _, (t16), (ts2_2 + 1)), hq2⟩
 rw [if_neg h14] at hq2
 dsimp only [Option.bind_some] at hq2
 refine z ?_
 exact bk ⟨(i2 + 1, _, _, (ts1_2), (ts2_2 + 1)), hq2⟩
 rw [if_neg h8] at hq2
 refine bkd (fun h17 => z ?_) (fun h17 => z ?_)
 rw [if_pos h17] at hq2
 rw [Option.bind_assoc] at hq2
 refine z ?_
 obtain ⟨v18, e18, hq2⟩ := ae hq2
 refine aX 1 2 (ts1_2) (b9 (hid := hid) e18) rfl rfl rfl rfl rfl (fun t18 => ?_)
 dsimp only [Option.bind_some] at hq2
 refine z ?_
 exact bk ⟨(i2 + 1, _, _, (t18), (ts2_2)), hq2⟩
 rw [if_neg h17] at hq2
 rw [Option.bind_assoc] at hq2
 refine z ?_
 refine dg aa [0,1,0,4,0,0,32,0,240,508,1020,2047,4095,8191] [⟨13,0,0,[5]⟩,⟨11,0,0,[6]⟩,⟨8,0,0,[2,1]⟩] (z ?_)
 obtain ⟨v21, e21, hq2⟩ := ae hq2
 refine aX 1 2 (ts1_2) (h e21) (by simp only [bV, bz, bx]; rfl) rfl rfl rfl rfl (fun t21 => ?_)
 rw [Option.bind_assoc] at hq2
 refine z ?_
 obtain ⟨hg22, hq2⟩ := aD hq2
 dsimp only [Option.bind_some] at hq2
 refine z ?_
 refine aH ({ label := x3.label, data := v21.fst }) (bQ _) (z ?_)
 exact bk ⟨(i2 + 1, _, _, (t21), (ts2_2 + 1)), hq2⟩
 rw [if_pos h7] at hq2
 dsimp only [Option.bind_some] at hq2
 rw [if_neg Bool.false_ne_true] at hq2
 rw [if_pos h6] at hq2
 refine ei (z ?_)
 refine bdt h6 (z ?_)
 refine bkd (fun h23 => z ?_) (fun h23 => z ?_)
 rw [if_pos h23] at hq2
 rw [Option.bind_assoc] at hq2
 refine z ?_
 refine dg aa [0,1,0,0,8,28,60,124,255,511,1023] [⟨10,0,0,[5]⟩,⟨8,0,0,[6]⟩,⟨5,0,0,[10,10]⟩] (z ?_)
 obtain ⟨v26, e26, hq2⟩ := ae hq2
 refine ez 10 0 2 rfl rfl ?_ rfl
 refine z ?_
 refine aX 10 11 (0) (h e26) (by simp only [bV, bz, bx]; rfl) rfl rfl rfl rfl (fun t26 => ?_)
 rw [Option.bind_assoc] at hq2
 refine z ?_
 obtain ⟨hg27, hq2⟩ := aD hq2
 rw [Option.bind_assoc] at hq2
 refine z ?_
 refine aH ({ label := [], data := v26.fst }) (bQ _) (z ?_)
 obtain ⟨hg28, hq2⟩ := aj hq2
 refine bkd (fun h29 => z ?_) (fun h29 => z ?_)
 rw [if_pos h29] at hq2
 rw [Option.bind_assoc] at hq2
 refine z ?_
 refine dg aa [0,1,3,0,0,16,48,112,240,496,1008,2032,4095] [] (z ?_)
 obtain ⟨j30, x30, en30, ex30, hq2⟩ := aB hq2
 refine aK en30 ex30 ?_
 rw [Option.bind_assoc] at hq2
 refine z ?_
 refine bw ex30 (z ?_)
 obtain ⟨v31, e31, hq2⟩ := ae hq2
 refine aX 1 2 (ts1_2) (b9 (hid := hid) e31) rfl rfl rfl rfl rfl (fun t31 => ?_)
 dsimp only [Option.bind_some] at hq2
 refine z ?_
 exact bk ⟨(i2 + 1, _, _, (t31), (ts2_2 + 1)), hq2⟩
 rw [if_neg h29] at hq2
 dsimp only [Option.bind_some] at hq2
 refine z ?_
 exact bk ⟨(i2 + 1, _, _, (ts1_2), (ts2_2 + 1)), hq2⟩
 rw [if_neg h23] at hq2
 refine bkd (fun h32 => z ?_) (fun h32 => z ?_)
 rw [if_pos h32] at hq2
 rw [Option.bind_assoc] at hq2
 refine z ?_
 obtain ⟨v33, e33, hq2⟩ := ae hq2
 refine aX 1 2 (ts1_2) (b9 (hid := hid) e33) rfl rfl rfl rfl rfl (fun t33 => ?_)
 dsimp only [Option.bind_some] at hq2
 refine z ?_
 exact bk ⟨(i2 + 1, _, _, (t33), (ts2_2)), hq2⟩
 rw [if_neg h32] at hq2
 rw [Option.bind_assoc] at hq2
 refine z ?_
 refine dg aa [0,1,0,4,0,0,32,0,240,508,1020,2047,4095,8191] [⟨13,0,0,[5]⟩,⟨11,0,0,[6]⟩,⟨8,0,0,[2,1]⟩] (z ?_)
 obtain ⟨v36, e36, hq2⟩ := ae hq2
 refine aX 1 2 (ts1_2) (h e36) (by simp only [bV, bz, bx]; rfl) rfl rfl rfl rfl (fun t36 => ?_)
 rw [Option.bind_assoc] at hq2
 refine z ?_
 obtain ⟨hg37, hq2⟩ := aD hq2
 dsimp only [Option.bind_some] at hq2
 refine z ?_
 refine aH ({ label := x3.label, data := v36.fst }) (bQ _) (z ?_)
 exact bk ⟨(i2 + 1, _, _, (t36), (ts2_2 + 1)), hq2⟩
 rw [if_neg h6] at hq2
 unfold vsB at hq2
 rw [Option.bind_assoc] at hq2
 unfold mI at hq2
 refine z ?_
 refine ci aa Tryz.f62 (z ?_)
 refine bkm (fun h38 => z ?_) (fun h38 => z ?_)
 rw [if_neg (nt h38)] at hq2
 rw [if_neg h6] at hq2
 rw [Option.bind_assoc] at hq2
 refine z ?_
 refine bnt h6 (z ?_)
 obtain ⟨j39, x39, en39, ex39, hq2⟩ := aB hq2
 refine ⟨_, _, en39, ex39, ?_⟩
 refine z ?_
 refine bkd (fun h40 => z ?_) (fun h40 => z ?_)
 rw [if_pos h40] at hq2
 dsimp only [Option.bind_some] at hq2
 rw [if_pos rfl] at hq2
 dsimp only [Option.bind_some] at hq2
 refine z ?_
 refine ei (z ?_)
 exact bk ⟨(i2 + 1, _, _, (ts1_2), (ts2_2)), hq2⟩
 rw [if_neg h40] at hq2
 refine ⟨_, _, en39, ex39, ?_⟩
 refine z ?_
 refine ei (z ?_)
 refine bkd (fun h41 => z ?_) (fun h41 => z ?_)
 rw [if_pos h41] at hq2
 dsimp only [Option.bind_some] at hq2
 rw [if_pos rfl] at hq2
 dsimp only [Option.bind_some] at hq2
 refine z ?_
 exact bk ⟨(i2 + 1, _, _, (ts1_2), (ts2_2)), hq2⟩
 rw [if_neg h41] at hq2
 dsimp only [Option.bind_some] at hq2
 rw [if_neg Bool.false_ne_true] at hq2
 rw [if_neg h6] at hq2
 refine bdf h6 (z ?_)
 refine bkd (fun h42 => z ?_) (fun h42 => z ?_)
 rw [if_pos h42] at hq2
 rw [Option.bind_assoc] at hq2
 refine z ?_
 obtain ⟨v43, e43, hq2⟩ := ae hq2
 refine cN 1 2 (ts1_2) (b9 (hid := hid) e43) rfl rfl (z ?_)
 intro t43
 dsimp only [Option.bind_some] at hq2
 refine z ?_
 exact bk ⟨(i2 + 1, _, _, (t43), (ts2_2)), hq2⟩
 rw [if_neg h42] at hq2
 rw [Option.bind_assoc] at hq2
 refine z ?_
 refine dg aa [0,1,0,4,0,0,32,0,240,508,1020,2047,4095,8191] [⟨13,0,0,[5]⟩,⟨11,0,0,[6]⟩,⟨8,0,0,[2,1,9]⟩] (z ?_)
 obtain ⟨v46, e46, hq2⟩ := ae hq2
 refine cN 1 2 (ts1_2) (h e46) (by simp only [aw, closed, aJ, clR, cl, cY, Bool.and_self]) rfl (z ?_)
 intro t46
 rw [Option.bind_assoc] at hq2
 refine z ?_
 obtain ⟨hg47, hq2⟩ := aD hq2
 dsimp only [Option.bind_some] at hq2
 refine z ?_
 refine aH ({ label := x3.label, data := v46.fst }) (bQ _) (z ?_)
 exact bk ⟨(i2 + 1, _, _, (t46), (ts2_2 + 1)), hq2⟩
 rw [if_pos h38] at hq2
 dsimp only [Option.bind_some] at hq2
 rw [if_neg Bool.false_ne_true] at hq2
 rw [if_neg h6] at hq2
 refine ei (z ?_)
 refine bdf h6 (z ?_)
 refine bkd (fun h48 => z ?_) (fun h48 => z ?_)
 rw [if_pos h48] at hq2
 rw [Option.bind_assoc] at hq2
 refine z ?_
 obtain ⟨v49, e49, hq2⟩ := ae hq2
 refine cN 1 2 (ts1_2) (b9 (hid := hid) e49) rfl rfl (z ?_)
 intro t49
 dsimp only [Option.bind_some] at hq2
 refine z ?_
 exact bk ⟨(i2 + 1, _, _, (t49), (ts2_2)), hq2⟩
 rw [if_neg h48] at hq2
 rw [Option.bind_assoc] at hq2
 refine z ?_
 refine dg aa [0,1,0,4,0,0,32,0,240,508,1020,2047,4095,8191] [⟨13,0,0,[5]⟩,⟨11,0,0,[6]⟩,⟨8,0,0,[2,1,9]⟩] (z ?_)
 obtain ⟨v52, e52, hq2⟩ := ae hq2
 refine cN 1 2 (ts1_2) (h e52) (by simp only [aw, closed, aJ, clR, cl, cY, Bool.and_self]) rfl (z ?_)
 intro t52
 rw [Option.bind_assoc] at hq2
 refine z ?_
 obtain ⟨hg53, hq2⟩ := aD hq2
 dsimp only [Option.bind_some] at hq2
 refine z ?_
 refine aH ({ label := x3.label, data := v52.fst }) (bQ _) (z ?_)
 exact bk ⟨(i2 + 1, _, _, (t52), (ts2_2 + 1)), hq2⟩
 rw [av h3, vsL] at hq2
 cases hq2
 refine aR (z ?_)
 exact ml
 refine z ?_
 obtain ⟨hg1, hm⟩ := aj hm
 refine bj 5 4 6 rfl rfl ?_
 refine lg (α := Nat × List bZ × List (Mem Dat) × Nat × Nat) aa (fun (iw, s1, s2, ts1, ts2) => (vsL (hid) (rec) (p0 :: path) (List.drop iw (c.fields)) s1 s2 = some r, ⟨105, [(16, .int .i64 iw), (15, .int .i64 ↑c.fields.length), (14, .lst false (List.map (cC eVa) c.fields)), (7, .ptr 5 0), (6, .ptr 4 0), (0, .ptr 1 0), (2, .lst false (List.map gY (p0 :: path)))]⟩, ⟨[(6, .row 6 (s2.map (jn dk)) ts2 false), (5, .cells [.int .i64 6, .int .i64 0, .str #[].toList, .az, .own 6 ts2]), (4, .cells [.int .i64 0, .int .i64 0, .str #[].toList, .az, .az]), (3, .cells (aF eVa c)), (0, aS), (1, .cells [.own 2 ts1, .bool hid]), (2, .row 2 (s1.map fU) ts1 false)], 7, 0, [], []⟩, List.length (c.fields) - iw)) ⟨(0, _, _, (t), (0)), hm⟩ ?_
 rintro ⟨i2, s1_2, s2_2, ts1_2, ts2_2⟩ hq2
 dsimp only at hq2
 refine z ?_
 refine bkd (fun h3 => z ?_) (fun h3 => z ?_)
 obtain ⟨x3, ex3, ed3⟩ := au h3
 rw [ed3, vsL] at hq2
 refine z ?_
 obtain ⟨hg4, hq2⟩ := aj hq2
 refine bo (cq _) ex3 rfl (z ?_)
 refine dg aa [0,1,0,4,12,28,63,127] [] (z ?_)
 refine cd aa Tryz.f61 (z ?_)
 refine sA (z ?_)
 refine ed (z ?_)
 obtain ⟨hg5, hq2⟩ := aD hq2
 refine z ?_
 refine aH ({ label := x3.label, index := 0 }) rfl (z ?_)
 refine bkd (fun h6 => z ?_) (fun h6 => z ?_)
 rw [if_pos h6] at hq2
 unfold vsB at hq2
 rw [Option.bind_assoc] at hq2
 unfold mI at hq2
 refine z ?_
 refine ci aa Tryz.f62 (z ?_)
 refine bkm (fun h7 => z ?_) (fun h7 => z ?_)
 rw [if_neg (nt h7)] at hq2
 rw [if_pos h6] at hq2
 dsimp only [Option.bind_some] at hq2
 rw [if_neg Bool.false_ne_true] at hq2
 rw [if_pos h6] at hq2
 refine bnf h6 (z ?_)
 refine ei (z ?_)
 refine bdt h6 (z ?_)
 refine bkd (fun h8 => z ?_) (fun h8 => z ?_)
 rw [if_pos h8] at hq2
 rw [Option.bind_assoc] at hq2
 refine z ?_
 refine dg aa [0,1,0,0,8,28,60,124,255,511,1023] [⟨10,0,0,[5]⟩,⟨8,0,0,[6]⟩,⟨5,0,0,[10,10]⟩] (z ?_)
 obtain ⟨v11, e11, hq2⟩ := ae hq2
 refine ez 10 0 2 rfl rfl ?_ rfl
 refine z ?_
 refine aX 10 11 (0) (h e11) (by simp only [bV, bz, bx]; rfl) rfl rfl rfl rfl (fun t11 => ?_)
 rw [Option.bind_assoc] at hq2
 refine z ?_
 obtain ⟨hg12, hq2⟩ := aD hq2
 rw [Option.bind_assoc] at hq2
 refine z ?_
 refine aH ({ label := [], data := v11.fst }) (bQ _) (z ?_)
 obtain ⟨hg13, hq2⟩ := aj hq2
 refine bkd (fun h14 => z ?_) (fun h14 => z ?_)
 rw [if_pos h14] at hq2
 rw [Option.bind_assoc] at hq2
 refine z ?_
 refine dg aa [0,1,3,0,0,16,48,112,240,496,1008,2032,4095] [] (z ?_)
 obtain ⟨j15, x15, en15, ex15, hq2⟩ := aB hq2
 refine aK en15 ex15 ?_
 rw [Option.bind_assoc] at hq2
 refine z ?_
 refine bw ex15 (z ?_)
 obtain ⟨v16, e16, hq2⟩ := ae hq2
 refine aX 1 2 (ts1_2) (b9 (hid := hid) e16) (by simp only [bV, bz, bx]; rfl) rfl rfl rfl rfl (fun t16 => ?_)
 dsimp only [Option.bind_some] at hq2
 refine z ?_
 exact bk ⟨(i2 + 1, _, _, (t16), (ts2_2 + 1)), hq2⟩
 rw [if_neg h14] at hq2
 dsimp only [Option.bind_some] at hq2
 refine z ?_
 exact bk ⟨(i2 + 1, _, _, (ts1_2), (ts2_2 + 1)), hq2⟩
 rw [if_neg h8] at hq2
 refine bkd (fun h17 => z ?_) (fun h17 => z ?_)
 rw [if_pos h17] at hq2
 rw [Option.bind_assoc] at hq2
 refine z ?_
 obtain ⟨v18, e18, hq2⟩ := ae hq2
 refine aX 1 2 (ts1_2) (b9 (hid := hid) e18) (by simp only [bV, bz, bx]; rfl) rfl rfl rfl rfl (fun t18 => ?_)
 dsimp only [Option.bind_some] at hq2
 refine z ?_
 exact bk ⟨(i2 + 1, _, _, (t18), (ts2_2)), hq2⟩
 rw [if_neg h17] at hq2
 rw [Option.bind_assoc] at hq2
 refine z ?_
 refine dg aa [0,1,0,4,0,0,32,0,240,508,1020,2047,4095,8191] [⟨13,0,0,[5]⟩,⟨11,0,0,[6]⟩,⟨8,0,0,[2,1]⟩] (z ?_)
 obtain ⟨v21, e21, hq2⟩ := ae hq2
 refine aX 1 2 (ts1_2) (h e21) (by simp only [bV, bz, bx]; rfl) rfl rfl rfl rfl (fun t21 => ?_)
 rw [Option.bind_assoc] at hq2
 refine z ?_
 obtain ⟨hg22, hq2⟩ := aD hq2
 dsimp only [Option.bind_some] at hq2
 refine z ?_
 refine aH ({ label := x3.label, data := v21.fst }) (bQ _) (z ?_)
 exact bk ⟨(i2 + 1, _, _, (t21), (ts2_2 + 1)), hq2⟩
 rw [if_pos h7] at hq2
 dsimp only [Option.bind_some] at hq2
 rw [if_neg Bool.false_ne_true] at hq2
 rw [if_pos h6] at hq2
 refine ei (z ?_)
 refine bdt h6 (z ?_)
 refine bkd (fun h23 => z ?_) (fun h23 => z ?_)
 rw [if_pos h23] at hq2
 rw [Option.bind_assoc] at hq2
 refine z ?_
 refine dg aa [0,1,0,0,8,28,60,124,255,511,1023] [⟨10,0,0,[5]⟩,⟨8,0,0,[6]⟩,⟨5,0,0,[10,10]⟩] (z ?_)
 obtain ⟨v26, e26, hq2⟩ := ae hq2
 refine ez 10 0 2 rfl rfl ?_ rfl
 refine z ?_
 refine aX 10 11 (0) (h e26) (by simp only [bV, bz, bx]; rfl) rfl rfl rfl rfl (fun t26 => ?_)
 rw [Option.bind_assoc] at hq2
 refine z ?_
 obtain ⟨hg27, hq2⟩ := aD hq2
 rw [Option.bind_assoc] at hq2
 refine z ?_
 refine aH ({ label := [], data := v26.fst }) (bQ _) (z ?_)
 obtain ⟨hg28, hq2⟩ := aj hq2
 refine bkd (fun h29 => z ?_) (fun h29 => z ?_)
 rw [if_pos h29] at hq2
 rw [Option.bind_assoc] at hq2
 refine z ?_
 refine dg aa [0,1,3,0,0,16,48,112,240,496,1008,2032,4095] [] (z ?_)
 obtain ⟨j30, x30, en30, ex30, hq2⟩ := aB hq2
 refine aK en30 ex30 ?_
 rw [Option.bind_assoc] at hq2
 refine z ?_
 refine bw ex30 (z ?_)
 obtain ⟨v31, e31, hq2⟩ := ae hq2
 refine aX 1 2 (ts1_2) (b9 (hid := hid) e31) (by simp only [bV, bz, bx]; rfl) rfl rfl rfl rfl (fun t31 => ?_)
 dsimp only [Option.bind_some] at hq2
 refine z ?_
 exact bk ⟨(i2 + 1, _, _, (t31), (ts2_2 + 1)), hq2⟩
 rw [if_neg h29] at hq2
 dsimp only [Option.bind_some] at hq2
 refine z ?_
 exact bk ⟨(i2 + 1, _, _, (ts1_2), (ts2_2 + 1)), hq2⟩
 rw [if_neg h23] at hq2
 refine bkd (fun h32 => z ?_) (fun h32 => z ?_)
 rw [if_pos h32] at hq2
 rw [Option.bind_assoc] at hq2
 refine z ?_
 obtain ⟨v33, e33, hq2⟩ := ae hq2
 refine aX 1 2 (ts1_2) (b9 (hid := hid) e33) (by simp only [bV, bz, bx]; rfl) rfl rfl rfl rfl (fun t33 => ?_)
 dsimp only [Option.bind_some] at hq2
 refine z ?_
 exact bk ⟨(i2 + 1, _, _, (t33), (ts2_2)), hq2⟩
 rw [if_neg h32] at hq2
 rw [Option.bind_assoc] at hq2
 refine z ?_
 refine dg aa [0,1,0,4,0,0,32,0,240,508,1020,2047,4095,8191] [⟨13,0,0,[5]⟩,⟨11,0,0,[6]⟩,⟨8,0,0,[2,1]⟩] (z ?_)
 obtain ⟨v36, e36, hq2⟩ := ae hq2
 refine aX 1 2 (ts1_2) (h e36) (by simp only [bV, bz, bx]; rfl) rfl rfl rfl rfl (fun t36 => ?_)
 rw [Option.bind_assoc] at hq2
 refine z ?_
 obtain ⟨hg37, hq2⟩ := aD hq2
 dsimp only [Option.bind_some] at hq2
 refine z ?_
 refine aH ({ label := x3.label, data := v36.fst }) (bQ _) (z ?_)
 exact bk ⟨(i2 + 1, _, _, (t36), (ts2_2 + 1)), hq2⟩
 rw [if_neg h6] at hq2
 unfold vsB at hq2
 rw [Option.bind_assoc] at hq2
 unfold mI at hq2
 refine z ?_
 refine ci aa Tryz.f62 (z ?_)
 refine bkm (fun h38 => z ?_) (fun h38 => z ?_)
 rw [if_neg (nt h38)] at hq2
 rw [if_neg h6] at hq2
 rw [Option.bind_assoc] at hq2
 refine z ?_
 refine bnt h6 (z ?_)
 obtain ⟨j39, x39, en39, ex39, hq2⟩ := aB hq2
 refine ⟨_, _, en39, ex39, ?_⟩
 refine z ?_
 refine bkd (fun h40 => z ?_) (fun h40 => z ?_)
 rw [if_pos h40] at hq2
 dsimp only [Option.bind_some] at hq2
 rw [if_pos rfl] at hq2
 dsimp only [Option.bind_some] at hq2
 refine z ?_
 refine ei (z ?_)
 exact bk ⟨(i2 + 1, _, _, (ts1_2), (ts2_2)), hq2⟩
 rw [if_neg h40] at hq2
 refine ⟨_, _, en39, ex39, ?_⟩
 refine z ?_
 refine ei (z ?_)
 refine bkd (fun h41 => z ?_) (fun h41 => z ?_)
 rw [if_pos h41] at hq2
 dsimp only [Option.bind_some] at hq2
 rw [if_pos rfl] at hq2
 dsimp only [Option.bind_some] at hq2
 refine z ?_
 exact bk ⟨(i2 + 1, _, _, (ts1_2), (ts2_2)), hq2⟩
 rw [if_neg h41] at hq2
 dsimp only [Option.bind_some] at hq2
 rw [if_neg Bool.false_ne_true] at hq2
 rw [if_neg h6] at hq2
 refine bdf h6 (z ?_)
 refine bkd (fun h42 => z ?_) (fun h42 => z ?_)
 rw [if_pos h42] at hq2
 rw [Option.bind_assoc] at hq2
 refine z ?_
 obtain ⟨v43, e43, hq2⟩ := ae hq2
 refine cN 1 2 (ts1_2) (b9 (hid := hid) e43) (by simp only [aw, closed, aJ, clR, cl, cY, Bool.and_self]) rfl (z ?_)
 intro t43
 dsimp only [Option.bind_some] at hq2
 refine z ?_
 exact bk ⟨(i2 + 1, _, _, (t43), (ts2_2)), hq2⟩
 rw [if_neg h42] at hq2
 rw [Option.bind_assoc] at hq2
 refine z ?_
 refine dg aa [0,1,0,4,0,0,32,0,240,508,1020,2047,4095,8191] [⟨13,0,0,[5]⟩,⟨11,0,0,[6]⟩,⟨8,0,0,[2,1,8]⟩] (z ?_)
 obtain ⟨v46, e46, hq2⟩ := ae hq2
 refine cN 1 2 (ts1_2) (h e46) (by simp only [aw, closed, aJ, clR, cl, cY, Bool.and_self]) rfl (z ?_)
 intro t46
 rw [Option.bind_assoc] at hq2
 refine z ?_
 obtain ⟨hg47, hq2⟩ := aD hq2
 dsimp only [Option.bind_some] at hq2
 refine z ?_
 refine aH ({ label := x3.label, data := v46.fst }) (bQ _) (z ?_)
 exact bk ⟨(i2 + 1, _, _, (t46), (ts2_2 + 1)), hq2⟩
 rw [if_pos h38] at hq2
 dsimp only [Option.bind_some] at hq2
 rw [if_neg Bool.false_ne_true] at hq2
 rw [if_neg h6] at hq2
 refine ei (z ?_)
 refine bdf h6 (z ?_)
 refine bkd (fun h48 => z ?_) (fun h48 => z ?_)
 rw [if_pos h48] at hq2
 rw [Option.bind_assoc] at hq2
 refine z ?_
 obtain ⟨v49, e49, hq2⟩ := ae hq2
 refine cN 1 2 (ts1_2) (b9 (hid := hid) e49) (by simp only [aw, closed, aJ, clR, cl, cY, Bool.and_self]) rfl (z ?_)
 intro t49
 dsimp only [Option.bind_some] at hq2
 refine z ?_
 exact bk ⟨(i2 + 1, _, _, (t49), (ts2_2)), hq2⟩
 rw [if_neg h48] at hq2
 rw [Option.bind_assoc] at hq2
 refine z ?_
 refine dg aa [0,1,0,4,0,0,32,0,240,508,1020,2047,4095,8191] [⟨13,0,0,[5]⟩,⟨11,0,0,[6]⟩,⟨8,0,0,[2,1,8]⟩] (z ?_)
 obtain ⟨v52, e52, hq2⟩ := ae hq2
 refine cN 1 2 (ts1_2) (h e52) (by simp only [aw, closed, aJ, clR, cl, cY, Bool.and_self]) rfl (z ?_)
 intro t52
 rw [Option.bind_assoc] at hq2
 refine z ?_
 obtain ⟨hg53, hq2⟩ := aD hq2
 dsimp only [Option.bind_some] at hq2
 refine z ?_
 refine aH ({ label := x3.label, data := v52.fst }) (bQ _) (z ?_)
 exact bk ⟨(i2 + 1, _, _, (t52), (ts2_2 + 1)), hq2⟩
 rw [av h3, vsL] at hq2
 cases hq2
 refine aR (z ?_)
 exact ml
abbrev zDat : Dat := gZ 0 0 []
def gE (ps : List bZ) (path : List Stp) (e : Int) : Option (Dat × List bZ) := (px ps path e).bind fun ps => some (zDat, ps)
def qa (hid : Bool) (rec : fS) (r : Vlu Va) (p : Dat × Bool) (path : List Stp) (ps : List bZ) : Option (Dat × List bZ) := if p.2 then some (p.1, ps) else
 if (r.lists.length : Int) = 1 then (atI r.lists 0).bind fun c => tC rec c path ps else (atI r.structs 0).bind fun c => tA hid rec c path ps
def qb (hid : Bool) (rec : fS) (r : Vlu Va) (p : Dat × Bool) (path : List Stp) (ps : List bZ) : Option (Dat × List bZ) :=
 if (r.lists.length : Int) + r.structs.length = 0 then if p.2 then qa hid rec r p path ps else gE ps path 14 else qa hid rec r p path ps
def gk (hid : Bool) (rec : fS) (r : Vlu Va) (path : List Stp) (ps : List bZ) : Option (Dat × List bZ) := (kx r.sc).bind fun p => (jQ r.sc).bind fun e => (aN r.lists).bind fun _ => (aN r.structs).bind fun _ =>
 (jd r).bind fun b => if b then gE ps path 12 else if r.any then gE ps path 14 else if (r.lists.length : Int) + r.structs.length > 1 then gE ps path 14 else
 if (r.lists.length : Int) + r.structs.length > 0 then if e then qb hid rec r p path ps else gE ps path 14 else qb hid rec r p path ps
def mf (hid : Bool) : Nat → fS
 | 0, _, _, _ => none
 | n + 1, x, path, ps => (jd x.d).bind fun b => if b then gk hid (mf hid n) x.v path ps else gk hid (mf hid n) x.d path ps
theorem visM_ok {hid : Bool} : ∀ {n : Nat}, VisP hid (mf hid n) := by
 intro n
 induction n with
 | zero => intro x path ps r hm; cases hm
 | succ n ih =>
  intro x path ps r hm
  refine kQ aa (fn := Tryz.f27) rfl rfl (clR _ _) (by simp only [nb, nbL, cz, b7, Bool.and_self]; rfl) (fun t => ?_)
  unfold mf at hm
  refine z ?_
  obtain ⟨v1, e1, hm⟩ := ae hm
  refine ct (iq e1) (z ?_)
  refine brk (fun h2 => z ?_) (fun h2 => z ?_)
  ·rw [if_pos h2] at hm
   unfold gk at hm
   refine z ?_
   obtain ⟨v3, e3, hm⟩ := ae hm
   refine ct (qo e3) (z ?_)
   obtain ⟨v4, e4, hm⟩ := ae hm
   refine ct (kY e4) (z ?_)
   obtain ⟨hg5, hm⟩ := aj hm
   obtain ⟨hg6, hm⟩ := aj hm
   refine z ?_
   obtain ⟨v8, e8, hm⟩ := ae hm
   refine ct (iq e8) (z ?_)
   refine brk (fun h9 => z ?_) (fun h9 => z ?_)
   ·rw [if_pos h9] at hm
    unfold gE at hm
    refine z ?_
    obtain ⟨v10, e10, hm⟩ := ae hm
    refine aX 1 2 (t) (b9 (hid := hid) e10) (by simp only [bV, bz, bx]; rfl) rfl rfl rfl rfl (fun t10 => ?_)
    refine z ?_
    cases hm
    refine aR (z ?_)
    exact ml
   ·rw [if_neg (nt h9)] at hm
    refine brk (fun h11 => z ?_) (fun h11 => z ?_)
    ·rw [if_pos h11] at hm
     unfold gE at hm
     refine z ?_
     obtain ⟨v12, e12, hm⟩ := ae hm
     refine aX 1 2 (t) (b9 (hid := hid) e12) (by simp only [bV, bz, bx]; rfl) rfl rfl rfl rfl (fun t12 => ?_)
     refine z ?_
     cases hm
     refine aR (z ?_)
     exact ml
    ·rw [if_neg (nt h11)] at hm
     refine bkd (fun h13 => z ?_) (fun h13 => z ?_)
     ·rw [if_pos h13] at hm
      unfold gE at hm
      refine z ?_
      obtain ⟨v14, e14, hm⟩ := ae hm
      refine aX 1 2 (t) (b9 (hid := hid) e14) (by simp only [bV, bz, bx]; rfl) rfl rfl rfl rfl (fun t14 => ?_)
      refine z ?_
      cases hm
      refine aR (z ?_)
      exact ml
     ·rw [if_neg h13] at hm
      refine bkd (fun h15 => z ?_) (fun h15 => z ?_)
      ·rw [if_pos h15] at hm
       refine bkm (fun h16 => z ?_) (fun h16 => z ?_)
       ·rw [if_neg (nt h16)] at hm
        unfold gE at hm
        refine z ?_
        obtain ⟨v17, e17, hm⟩ := ae hm
        refine aX 1 2 (t) (b9 (hid := hid) e17) (by simp only [bV, bz, bx]; rfl) rfl rfl rfl rfl (fun t17 => ?_)
        refine z ?_
        cases hm
        refine aR (z ?_)
        exact ml
       ·rw [if_pos h16] at hm
        unfold qb at hm
        refine z ?_
        have h18 : ¬ ((↑x.v.lists.length + ↑x.v.structs.length : Int) = 0) := by omega
        refine bdf h18 (z ?_)
        rw [if_neg h18] at hm
        unfold qa at hm
        refine z ?_
        refine brk (fun h19 => z ?_) (fun h19 => z ?_)
        ·rw [if_pos h19] at hm
         cases hm
         exact msl
        ·rw [if_neg (nt h19)] at hm
         refine bkd (fun h20 => z ?_) (fun h20 => z ?_)
         ·rw [if_pos h20] at hm
          obtain ⟨j21, x21, en21, ex21, hm⟩ := aB hm
          refine bf en21 ex21 rfl (z ?_)
          replace hm := aG hm
          obtain ⟨v22, e22, hm⟩ := ae hm
          refine aX 1 2 (t) (wU ih e22) (by simp only [bV, bz, bx]; rfl) rfl rfl rfl rfl (fun t22 => ?_)
          refine z ?_
          cases hm
          exact msl
         ·rw [if_neg h20] at hm
          obtain ⟨j23, x23, en23, ex23, hm⟩ := aB hm
          refine bf en23 ex23 rfl (z ?_)
          replace hm := aG hm
          obtain ⟨v24, e24, hm⟩ := ae hm
          refine aX 1 2 (t) (wS ih e24) (by simp only [bV, bz, bx]; rfl) rfl rfl rfl rfl (fun t24 => ?_)
          refine z ?_
          cases hm
          exact msl
      ·rw [if_neg h15] at hm
       unfold qb at hm
       refine z ?_
       have h25 : ((↑x.v.lists.length + ↑x.v.structs.length : Int) = 0) := by omega
       refine bdt h25 (z ?_)
       rw [if_pos h25] at hm
       refine bkm (fun h26 => z ?_) (fun h26 => z ?_)
       ·rw [if_neg (nt h26)] at hm
        unfold gE at hm
        refine z ?_
        obtain ⟨v27, e27, hm⟩ := ae hm
        refine aX 1 2 (t) (b9 (hid := hid) e27) (by simp only [bV, bz, bx]; rfl) rfl rfl rfl rfl (fun t27 => ?_)
        refine z ?_
        cases hm
        refine aR (z ?_)
        exact ml
       ·rw [if_pos h26] at hm
        unfold qa at hm
        rw [if_pos h26] at hm
        refine brt h26 (z ?_)
        cases hm
        exact msl
  ·rw [if_neg (nt h2)] at hm
   unfold gk at hm
   refine z ?_
   obtain ⟨v28, e28, hm⟩ := ae hm
   refine ct (qo e28) (z ?_)
   obtain ⟨v29, e29, hm⟩ := ae hm
   refine ct (kY e29) (z ?_)
   obtain ⟨hg30, hm⟩ := aj hm
   obtain ⟨hg31, hm⟩ := aj hm
   refine z ?_
   obtain ⟨v33, e33, hm⟩ := ae hm
   refine ct (iq e33) (z ?_)
   refine brk (fun h34 => z ?_) (fun h34 => z ?_)
   ·rw [if_pos h34] at hm
    unfold gE at hm
    refine z ?_
    obtain ⟨v35, e35, hm⟩ := ae hm
    refine aX 1 2 (t) (b9 (hid := hid) e35) (by simp only [bV, bz, bx]; rfl) rfl rfl rfl rfl (fun t35 => ?_)
    refine z ?_
    cases hm
    refine aR (z ?_)
    exact ml
   ·rw [if_neg (nt h34)] at hm
    refine brk (fun h36 => z ?_) (fun h36 => z ?_)
    ·rw [if_pos h36] at hm
     unfold gE at hm
     refine z ?_
     obtain ⟨v37, e37, hm⟩ := ae hm
     refine aX 1 2 (t) (b9 (hid := hid) e37) (by simp only [bV, bz, bx]; rfl) rfl rfl rfl rfl (fun t37 => ?_)
     refine z ?_
     cases hm
     refine aR (z ?_)
     exact ml
    ·rw [if_neg (nt h36)] at hm
     refine bkd (fun h38 => z ?_) (fun h38 => z ?_)
     ·rw [if_pos h38] at hm
      unfold gE at hm
      refine z ?_
      obtain ⟨v39, e39, hm⟩ := ae hm
      refine aX 1 2 (t) (b9 (hid := hid) e39) (by simp only [bV, bz, bx]; rfl) rfl rfl rfl rfl (fun t39 => ?_)
      refine z ?_
      cases hm
      refine aR (z ?_)
      exact ml
     ·rw [if_neg h38] at hm
      refine bkd (fun h40 => z ?_) (fun h40 => z ?_)
      ·rw [if_pos h40] at hm
       refine bkm (fun h41 => z ?_) (fun h41 => z ?_)
       ·rw [if_neg (nt h41)] at hm
        unfold gE at hm
        refine z ?_
        obtain ⟨v42, e42, hm⟩ := ae hm
        refine aX 1 2 (t) (b9 (hid := hid) e42) (by simp only [bV, bz, bx]; rfl) rfl rfl rfl rfl (fun t42 => ?_)
        refine z ?_
        cases hm
        refine aR (z ?_)
        exact ml
       ·rw [if_pos h41] at hm
        unfold qb at hm
        refine z ?_
        have h43 : ¬ ((↑x.d.lists.length + ↑x.d.structs.length : Int) = 0) := by omega
        refine bdf h43 (z ?_)
        rw [if_neg h43] at hm
        unfold qa at hm
        refine z ?_
        refine brk (fun h44 => z ?_) (fun h44 => z ?_)
        ·rw [if_pos h44] at hm
         cases hm
         exact msl
        ·rw [if_neg (nt h44)] at hm
         refine bkd (fun h45 => z ?_) (fun h45 => z ?_)
         ·rw [if_pos h45] at hm
          obtain ⟨j46, x46, en46, ex46, hm⟩ := aB hm
          refine bf en46 ex46 rfl (z ?_)
          replace hm := aG hm
          obtain ⟨v47, e47, hm⟩ := ae hm
          refine aX 1 2 (t) (wU ih e47) (by simp only [bV, bz, bx]; rfl) rfl rfl rfl rfl (fun t47 => ?_)
          refine z ?_
          cases hm
          exact msl
         ·rw [if_neg h45] at hm
          obtain ⟨j48, x48, en48, ex48, hm⟩ := aB hm
          refine bf en48 ex48 rfl (z ?_)
          replace hm := aG hm
          obtain ⟨v49, e49, hm⟩ := ae hm
          refine aX 1 2 (t) (wS ih e49) (by simp only [bV, bz, bx]; rfl) rfl rfl rfl rfl (fun t49 => ?_)
          refine z ?_
          cases hm
          exact msl
      ·rw [if_neg h40] at hm
       unfold qb at hm
       refine z ?_
       have h50 : ((↑x.d.lists.length + ↑x.d.structs.length : Int) = 0) := by omega
       refine bdt h50 (z ?_)
       rw [if_pos h50] at hm
       refine bkm (fun h51 => z ?_) (fun h51 => z ?_)
       ·rw [if_neg (nt h51)] at hm
        unfold gE at hm
        refine z ?_
        obtain ⟨v52, e52, hm⟩ := ae hm
        refine aX 1 2 (t) (b9 (hid := hid) e52) (by simp only [bV, bz, bx]; rfl) rfl rfl rfl rfl (fun t52 => ?_)
        refine z ?_
        cases hm
        refine aR (z ?_)
        exact ml
       ·rw [if_pos h51] at hm
        unfold qa at hm
        rw [if_pos h51] at hm
        refine brt h51 (z ?_)
        cases hm
        exact msl
def eO (x : Va) (hid : Bool) : Option (Dat × List bZ) := (nu x).bind fun c => if c then mf hid 18 x [] [] else (px [] [] 11).bind fun ps => some (zDat, ps)
theorem rQ {x : Va} {hid : Bool} {r : Dat × List bZ} (hm : eO x hid = some r) : aY Tryz.prog 17 [.agg (uVa x), .bool hid] fun s => s = .tup [.agg (dw r.1), .lst false (r.2.map fU)] := by
 refine ht aa Tryz.f17 ?_
 unfold eO at hm
 refine z ?_
 obtain ⟨v1, e1, hm⟩ := ae hm
 refine ct (tE e1) (z ?_)
 refine bkm (fun h2 => z ?_) (fun h2 => z ?_)
 rw [if_neg (nt h2)] at hm
 obtain ⟨v3, e3, hm⟩ := ae hm
 refine ez 3 0 2 rfl rfl ?_ rfl
 refine z ?_
 refine aX 3 4 (0) (b9 (hid := hid) e3) rfl rfl rfl rfl rfl (fun t3 => ?_)
 refine z ?_
 refine dg aa [0,0,2,6,14,30,1,127] [⟨6,0,0,[2]⟩] (z ?_)
 cases hm
 refine aR (z ?_)
 exact mt
 rw [if_pos h2] at hm
 replace hm := aG hm
 obtain ⟨v4, e4, hm⟩ := ae hm
 refine ez 3 0 2 rfl rfl ?_ rfl
 refine z ?_
 refine aX 3 4 (0) (visM_ok e4) (by simp only [bV, bz, bx]; rfl) rfl rfl rfl rfl (fun t4 => ?_)
 refine z ?_
 refine dg aa [0,0,2,6,14,30,1,127] [⟨6,0,0,[2]⟩] (z ?_)
 cases hm
 refine aR (z ?_)
 exact mt
def mY (x : Va) (hid : Bool) : Option (Dat × Int) := (eO x hid).bind fun p => (aN p.2).bind fun _ => if (p.2.length : Int) > 0 then (atI p.2 0).bind fun e => some (zDat, e.jO) else some (p.1, 0)
theorem rJ {x : Va} {hid : Bool} {r : Dat × Int} (hm : mY x hid = some r) : aY Tryz.prog 6 [.agg (uVa x), .bool hid] fun s => s = .tup [.agg (dw r.1), .int .i64 r.2] := by
 refine ht aa Tryz.f6 ?_
 unfold mY at hm
 refine z ?_
 obtain ⟨v1, e1, hm⟩ := ae hm
 refine ct (rQ e1) (z ?_)
 obtain ⟨hg2, hm⟩ := aj hm
 refine bkd (fun h3 => z ?_) (fun h3 => z ?_)
 rw [if_pos h3] at hm
 refine dg aa [0,0,2,6,14,1,63] [⟨5,0,0,[2]⟩] (z ?_)
 obtain ⟨j5, x5, en5, ex5, hm⟩ := aB hm
 refine bf en5 ex5 rfl (z ?_)
 cases hm
 refine aR (z ?_)
 exact mt
 rw [if_neg h3] at hm
 cases hm
 exact mst
def probsC (x : Va) (hid : Bool) : Option (List bZ) := (eO x hid).bind fun p => some p.2
theorem probsC_ok {x : Va} {hid : Bool} {r : List bZ} (hm : probsC x hid = some r) : aY Tryz.prog 15 [.agg (uVa x), .bool hid] fun s => s = .lst false (r.map fU) := by
 refine ht aa Tryz.f15 ?_
 unfold probsC at hm
 refine z ?_
 obtain ⟨v1, e1, hm⟩ := ae hm
 refine ct (rQ e1) (z ?_)
 cases hm
 exact mst
end Go.Proofs.YtmjddpeookapaaaGreatDoor
