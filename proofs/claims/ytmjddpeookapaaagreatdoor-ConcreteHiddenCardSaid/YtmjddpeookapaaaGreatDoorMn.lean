/- For ConcreteHidden: functions of the program, walked beside Lean functions that say what they compute. -/
import Derived.Test.YtmjddpeookapaaaGreatDoorEn
import Derived.KernelRfl
import Derived.Test.YtmjddpeookapaaaGreatDoorMm
set_option linter.unusedVariables false
set_option linter.unusedSimpArgs false
set_option linter.unusedSectionVars false
namespace Go.Proofs.YtmjddpeookapaaaGreatDoor
open Sv
set_option maxRecDepth 100000
set_option maxHeartbeats 2000000
def notL (a : List Stt) : Option (List Stt) := allA.bind fun al => jI al a
theorem notL_ok {a r : List Stt} (hm : notL a = some r) : aY Tryz.prog 48 [.agg [aC a]] fun s => s = .agg [aC r] := by
 refine ht aa Tryz.f48 ?_
 unfold notL at hm
 refine z ?_
 refine dg aa [0,0,3,7] [] (z ?_)
 obtain ⟨v1, e1, hm⟩ := ae hm
 refine ce (allA_ok e1) (z ?_)
 replace hm := aG hm
 obtain ⟨v2, e2, hm⟩ := ae hm
 refine ct (kL e2) (z ?_)
 cases hm
 exact mst
def scaV (s : bW) : Option Va := plain ⟨false, s, [], []⟩
theorem scaV_ok {s : bW} {r : Va} (hm : scaV s = some r) : Has Tryz.prog 50 [.agg (bS s)] fun v => v = .agg (uVa r) := by
 refine hs aa Tryz.f50 ?_
 unfold scaV at hm
 refine z ?_
 replace hm := aG hm
 obtain ⟨v1, e1, hm⟩ := ae hm
 refine ce (ia e1) (z ?_)
 cases hm
 exact fc
theorem plain_okS {fs : List (Fld Va)} {n : List Stt} {other r : Va} (hm : plain ⟨false, dX, [], [⟨fs, [⟨n, other⟩]⟩]⟩ = some r) : Has Tryz.prog 14 [.agg [.bool false, .bool false, .bool false, .bool false, .lst false [], .lst false [], .lst false [], .lst false [], .lst false [[.lst false (fs.map (cC eVa)), .lst false [ep ⟨n, other⟩]]]]] fun s => s = .agg (uVa r) := by
 have h := ia hm
 have e : bM eVa ⟨false, dX, [], [⟨fs, [⟨n, other⟩]⟩]⟩ = [.bool false, .bool false, .bool false, .bool false, .lst false [], .lst false [], .lst false [], .lst false [], .lst false [[.lst false (fs.map (cC eVa)), .lst false [ep ⟨n, other⟩]]]] := by
  simp only [bM, aF, List.map, cQ, ep, bX, dX, aQ, aC]
 rwa [e] at h
def ofI (rec : Dat → Option Va) : List Dat → List Va → Option Va
 | [], out => plain ⟨false, dX, [⟨out, []⟩], []⟩
 | x :: r, out => (rec x).bind fun v => (push out v).bind fun out => ofI rec r out
def ofM (rec : Dat → Option Va) (other : Va) : List (Mem Dat) → List (Fld Va) → List Stt → Option Va
 | [], out, fs => (notL fs).bind fun n => plain ⟨false, dX, [], [⟨out, [⟨n, other⟩]⟩]⟩
 | m :: r, out, fs => (rec m.data).bind fun v => (push out ⟨m.label, 1, v⟩).bind fun out => (tu m.label).bind fun w => (orL fs w).bind fun fs => ofM rec other r out fs
def ofC (other : Va) : Nat → Dat → Option Va
 | 0, _ => none
 | n + 1, d => if d.c.kind = 5 then (aN d.c.items).bind fun _ => ofI (ofC other n) d.c.items [] else if d.c.kind = 6 then (aN d.c.members).bind fun _ => ofM (ofC other n) other d.c.members [] [] else (ofS d).bind fun p => scaV p.1
theorem ofC_ok {other : Va} : ∀ {n : Nat} {d : Dat} {r : Va} (hm : ofC other n d = some r), aY Tryz.prog 31 [.agg (dw d), .agg (uVa other)] fun s => s = .agg (uVa r) := by
 intro n
 induction n with
 | zero => intro d r hm; cases hm
 | succ n ih =>
  intro d r hm
  refine ht aa Tryz.f31 ?_
  unfold ofC at hm
  refine z ?_
  refine bkd (fun h1 => z ?_) (fun h1 => z ?_)
  ·rw [if_pos h1] at hm
   obtain ⟨hg2, hm⟩ := aj hm
   refine bj 4 0 18 rfl rfl ?_
   refine lg (α := Nat × List Va × Nat) aa (fun (iw, s1, ts1) => (ofI (ofC other n) (List.drop iw (d.c.items)) s1 = some r, ⟨82, [(21, .int .i64 iw), (20, .int .i64 ↑d.c.items.length), (19, .lst false (List.map dk d.c.items)), (5, .ptr 4 0), (4, .ptr 3 0), (3, .ptr 2 0), (2, .ptr 1 0)]⟩, ⟨[(5, .row 18 (s1.map eVa) ts1 false), (4, .cells [.own 5 ts1, .az]), (3, .cells [.bool false, .bool false, .bool false, .bool false, .az, .az, .az, .az, .az, .bool false, .bool false, .bool false, .bool false, .az, .az, .az, .az, .az]), (2, .cells (uVa other)), (1, .cells (dw d)), (0, aS)], 6, 0, [], []⟩, List.length (d.c.items) - iw)) ⟨(0, _, (0)), hm⟩ ?_
   rintro ⟨i3, s1_3, ts1_3⟩ hq3
   dsimp only at hq3
   refine z ?_
   refine bkd (fun h4 => z ?_) (fun h4 => z ?_)
   ·obtain ⟨x4, ex4, ed4⟩ := au h4
    rw [ed4, ofI] at hq3
    refine z ?_
    refine bo (dV _) ex4 rfl (z ?_)
    refine dg aa [0,1,0,0,12,28,63,127,255] [] (z ?_)
    obtain ⟨v5, e5, hq3⟩ := ae hq3
    refine ct (ih e5) (z ?_)
    obtain ⟨hg6, hq3⟩ := aD hq3
    refine z ?_
    refine aH (v5) (bX _) (z ?_)
    exact bk ⟨(i3 + 1, _, (ts1_3 + 1)), hq3⟩
   ·rw [av h4, ofI] at hq3
    replace hq3 := aG hq3
    obtain ⟨v7, e7, hq3⟩ := ae hq3
    refine eA (ia e7) (z ?_)
    cases hq3
    exact mst
  ·rw [if_neg h1] at hm
   refine bkd (fun h8 => z ?_) (fun h8 => z ?_)
   ·rw [if_pos h8] at hm
    obtain ⟨hg9, hm⟩ := aj hm
    refine bj 4 0 20 rfl rfl ?_
    refine gf 5 0 rfl rfl ?_
    refine lg (α := Nat × List (Fld Va) × List Stt × Nat) aa (fun (iw, s1, s2, ts1) => (ofM (ofC other n) (other) (List.drop iw (d.c.members)) s1 s2 = some r, ⟨82, [(43, .int .i64 iw), (42, .int .i64 ↑d.c.members.length), (41, .lst false (List.map (jn dk) d.c.members)), (9, .ptr 5 0), (8, .ptr 4 0), (4, .ptr 3 0), (3, .ptr 2 0), (2, .ptr 1 0)]⟩, ⟨[(6, .row 20 (s1.map (cC eVa)) ts1 false), (5, .cells [aC s2]), (4, .cells [.own 6 ts1, .az]), (3, .cells [.bool false, .bool false, .bool false, .bool false, .az, .az, .az, .az, .az, .bool false, .bool false, .bool false, .bool false, .az, .az, .az, .az, .az]), (2, .cells (uVa other)), (1, .cells (dw d)), (0, aS)], 7, 0, [], []⟩, List.length (d.c.members) - iw)) ⟨(0, _, _, (0)), hm⟩ ?_
    rintro ⟨i10, s1_10, s2_10, ts1_10⟩ hq10
    dsimp only at hq10
    refine z ?_
    refine bkd (fun h11 => z ?_) (fun h11 => z ?_)
    ·obtain ⟨x11, ex11, ed11⟩ := au h11
     rw [ed11, ofM] at hq10
     refine z ?_
     refine bo (bQ _) ex11 rfl (z ?_)
     refine dg aa [0,1,0,4,0,16,0,112,252,508,1023,2047,4095] [] (z ?_)
     obtain ⟨v12, e12, hq10⟩ := ae hq10
     refine ct (ih e12) (z ?_)
     obtain ⟨hg13, hq10⟩ := aD hq10
     refine z ?_
     refine aH ({ label := x11.label, fe := 1, val := v12 }) (cq _) (z ?_)
     refine dg aa [0,0,2,6,15,31] [] (z ?_)
     obtain ⟨v14, e14, hq10⟩ := ae hq10
     refine ce (word_ok e14) (z ?_)
     obtain ⟨v15, e15, hq10⟩ := ae hq10
     refine ct (vx e15) (z ?_)
     exact bk ⟨(i10 + 1, _, _, (ts1_10 + 1)), hq10⟩
    ·rw [av h11, ofM] at hq10
     refine dg aa [0,1,0,7,15,31,63] [] (z ?_)
     obtain ⟨v16, e16, hq10⟩ := ae hq10
     refine ct (notL_ok e16) (z ?_)
     replace hq10 := aG hq10
     obtain ⟨v17, e17, hq10⟩ := ae hq10
     refine eA (plain_okS e17) (z ?_)
     cases hq10
     exact mst
   ·rw [if_neg h8] at hm
    obtain ⟨v18, e18, hm⟩ := ae hm
    refine ct (ofS_ok e18) (z ?_)
    replace hm := aG hm
    obtain ⟨v19, e19, hm⟩ := ae hm
    refine ce (scaV_ok e19) (z ?_)
    cases hm
    exact mst
def madeC (d : Dat) (other : Va) : Option (Va × Int) := (chkD d).bind fun e => if e = 0 then (ofC other 18 d).bind fun v => (nB v).bind fun ok => if ok then q9 v else some (zVa, 9) else some (zVa, e)
theorem yj {d : Dat} {other : Va} {r : Va × Int} (hm : madeC d other = some r) : aY Tryz.prog 20 [.agg (dw d), .agg (uVa other)] fun s => s = .tup [.agg (uVa r.1), .int .i64 r.2] := by
 refine ht aa Tryz.f20 ?_
 unfold madeC at hm
 refine z ?_
 obtain ⟨v1, e1, hm⟩ := ae hm
 refine ce (chkD_ok e1) (z ?_)
 refine bkn (fun h2 => z ?_) (fun h2 => z ?_)
 rw [if_neg h2] at hm
 cases hm
 refine aR (z ?_)
 exact mt
 rw [if_pos h2] at hm
 obtain ⟨v3, e3, hm⟩ := ae hm
 refine ct (ofC_ok e3) (z ?_)
 obtain ⟨v4, e4, hm⟩ := ae hm
 refine ct (tJ e4) (z ?_)
 refine bkm (fun h5 => z ?_) (fun h5 => z ?_)
 rw [if_neg (nt h5)] at hm
 cases hm
 refine aR (z ?_)
 exact mt
 rw [if_pos h5] at hm
 replace hm := aG hm
 obtain ⟨v6, e6, hm⟩ := ae hm
 refine ct (q8 e6) (z ?_)
 cases hm
 exact mst
def cOf (d : Dat) : Option (Va × Int) := madeC d zVa
theorem cOf_ok {d : Dat} {r : Va × Int} (hm : cOf d = some r) : aY Tryz.prog 10 [.agg (dw d)] fun s => s = .tup [.agg (uVa r.1), .int .i64 r.2] := by
 refine ht aa Tryz.f10 ?_
 unfold cOf at hm
 refine z ?_
 replace hm := aG hm
 obtain ⟨v1, e1, hm⟩ := ae hm
 refine ct (yj e1) (z ?_)
 cases hm
 exact mst
def wy (d : Dat) : Option (Va × Int) := topV.bind fun t => madeC d t
theorem cLoose_ok {d : Dat} {r : Va × Int} (hm : wy d = some r) : aY Tryz.prog 13 [.agg (dw d)] fun s => s = .tup [.agg (uVa r.1), .int .i64 r.2] := by
 refine ht aa Tryz.f13 ?_
 unfold wy at hm
 refine z ?_
 refine dg aa [0,0,3,7,7,31,63] [] (z ?_)
 obtain ⟨v1, e1, hm⟩ := ae hm
 refine ce (topV_ok e1) (z ?_)
 replace hm := aG hm
 obtain ⟨v2, e2, hm⟩ := ae hm
 refine ct (yj e2) (z ?_)
 cases hm
 exact mst
theorem ctSc_ok {ll : List (List (aI Va))} {r : List (aI Va)} (hm : ctM ll = some r) : Has Tryz.prog 37 [.lst false (ll.map (fK (aF eVa)))] fun s => s = .lst false (r.map (aF eVa)) := by
 refine hs aa Tryz.f37 ?_
 unfold ctM at hm
 refine z ?_
 obtain ⟨hg1, hm⟩ := aj hm
 obtain ⟨v2, hv2, hm⟩ := ae hm
 refine lg (α := Nat × Int) aa (fun (iw, s1) => (ctL (List.drop iw (ll)) s1 = some v2, ⟨36, [(11, .int .i64 iw), (10, .int .i64 ↑ll.length), (9, .lst false (List.map (fK (aF eVa)) ll)), (3, .int .i64 s1), (2, .az), (0, .lst false (List.map (fK (aF eVa)) ll))]⟩, ⟨[], 0, 0, [], []⟩, List.length (ll) - iw)) ⟨(0, _), hv2⟩ ?_
 rintro ⟨i2, s1_2⟩ hq2
 dsimp only at hq2
 refine z ?_
 refine bkd (fun h3 => z ?_) (fun h3 => z ?_)
 obtain ⟨x3, ex3, ed3⟩ := au h3
 rw [ed3, ctL] at hq2
 refine z ?_
 obtain ⟨hg4, hq2⟩ := aj hq2
 obtain ⟨hg5, hq2⟩ := aj hq2
 refine a6 ex3 rfl (z ?_)
 refine bkd (fun h6 => z ?_) (fun h6 => z ?_)
 rw [if_pos h6] at hq2
 cases hq2
 rw [if_neg h6] at hq2
 exact bk ⟨(i2 + 1, _), hq2⟩
 rw [av h3, ctL] at hq2
 cases hq2
 refine z ?_
 refine ci aa Tryz.f57 (z ?_)
 obtain ⟨hg7, hm⟩ := aj hm
 refine bkd (fun h8 => z ?_) (fun h8 => z ?_)
 rw [if_pos h8] at hm
 cases hm
 rw [if_neg h8] at hm
 refine fj (z ?_)
 refine ⟨by simp only [InR, List.length_map, List.length_nil, List.length_cons, List.length_singleton, List.length_append]; omega, ?_⟩
 refine z ?_
 refine ⟨by simp only [InR, List.length_map, List.length_nil, List.length_cons, List.length_singleton, List.length_append]; omega, ?_⟩
 refine z ?_
 refine bkd (fun h9 => z ?_) (fun h9 => z ?_)
 refine ⟨v2.toNat, by simp only [List.length_nil] at *; omega, by simp only [List.length_nil] at *; omega, by omega, zt ?_⟩
 refine z ?_
 refine fj (z ?_)
 refine ⟨0, rfl, Nat.zero_le _, as_go (List.map (aF eVa) []) rfl ?_⟩
 refine z ?_
 refine ei (z ?_)
 refine lg (α := Nat × List (aI Va) × Nat) aa (fun (iw, s1, ts1) => (ctA (List.drop iw (ll)) s1 = some r, ⟨36, [(27, .int .i64 iw), (26, .int .i64 ↑ll.length), (25, .lst false (List.map (fK (aF eVa)) ll)), (6, .own 0 ts1), (2, .az)]⟩, ⟨[(0, .row 2 (s1.map (aF eVa)) ts1 false)], 1, 0, [], []⟩, List.length (ll) - iw)) ⟨(0, _, (1)), hm⟩ ?_
 rintro ⟨i10, s1_10, ts1_10⟩ hq10
 dsimp only at hq10
 refine z ?_
 refine bkd (fun h11 => z ?_) (fun h11 => z ?_)
 obtain ⟨x11, ex11, ed11⟩ := au h11
 rw [ed11, ctA] at hq10
 refine z ?_
 refine a6 ex11 rfl (z ?_)
 obtain ⟨hg12, hq10⟩ := dN hq10
 refine z ?_
 refine hM (z ?_)
 exact bk ⟨(i10 + 1, _, (ts1_10 + 1)), hq10⟩
 rw [av h11, ctA] at hq10
 cases hq10
 refine cP (z ?_)
 first | exact e2 | exact rfl
 refine z ?_
 refine ei (z ?_)
 refine b0 6 2 rfl ?_
 refine lg (α := Nat × List (aI Va) × Nat) aa (fun (iw, s1, ts1) => (ctA (List.drop iw (ll)) s1 = some r, ⟨36, [(6, .own 0 ts1), (27, .int .i64 iw), (26, .int .i64 ↑ll.length), (25, .lst false (List.map (fK (aF eVa)) ll)), (2, .az)]⟩, ⟨[(0, .row 2 (s1.map (aF eVa)) ts1 false)], 1, 0, [], []⟩, List.length (ll) - iw)) ⟨(0, _, (0)), hm⟩ ?_
 rintro ⟨i13, s1_13, ts1_13⟩ hq13
 dsimp only at hq13
 refine z ?_
 refine bkd (fun h14 => z ?_) (fun h14 => z ?_)
 obtain ⟨x14, ex14, ed14⟩ := au h14
 rw [ed14, ctA] at hq13
 refine z ?_
 refine a6 ex14 rfl (z ?_)
 obtain ⟨hg15, hq13⟩ := dN hq13
 refine z ?_
 refine hM (z ?_)
 exact bk ⟨(i13 + 1, _, (ts1_13 + 1)), hq13⟩
 rw [av h14, ctA] at hq13
 cases hq13
 refine cP (z ?_)
 first | exact e2 | exact rfl
theorem concSc_ok {a b r : List (aI Va)} (hm : jU a b = some r) : Has Tryz.prog 37 [.lst false [[.lst false (a.map (aF eVa))], [.lst false (b.map (aF eVa))]]] fun s => s = .lst false (r.map (aF eVa)) := ctSc_ok (rM hm)
def unL : List (Vlu Va) → bW → List (aT Va) → List (aI Va) → Option (Vlu Va)
 | [], sc, ls, ss => (q9 (.mk ⟨false, sc, ls, ss⟩ zV)).bind fun p => some p.1.v
 | v :: r, sc, ls, ss => if v.any then some ⟨true, dX, [], []⟩ else (aN ls).bind fun _ => (aN v.lists).bind fun _ => (grd (ls.length + v.lists.length < 1000000000)).bind fun _ =>
   (orS sc v.sc).bind fun sc => (jF ls v.lists).bind fun ls => (jU ss v.structs).bind fun ss => unL r sc ls ss
def u3 (l : List (Vlu Va)) : Option (Vlu Va) := (aN l).bind fun _ => unL l dX [] []
theorem tF {l : List (Vlu Va)} {r : Vlu Va} (hm : u3 l = some r) : aY Tryz.prog 23 [.lst false (l.map (bM eVa))] fun s => s = .agg (bM eVa r) := by
 refine ht aa Tryz.f23 ?_
 unfold u3 at hm
 refine z ?_
 obtain ⟨hg1, hm⟩ := aj hm
 refine gf 2 4 rfl rfl ?_
 refine gf 2 5 rfl rfl ?_
 refine gf 2 6 rfl rfl ?_
 refine gf 2 7 rfl rfl ?_
 refine gf 2 8 rfl rfl ?_
 refine lg (α := Nat × bW × List (aT Va) × List (aI Va)) aa (fun (iw, s1, s2, s3) => (unL (List.drop iw (l)) s1 s2 s3 = some r, ⟨58, [(11, .int .i64 iw), (10, .int .i64 ↑l.length), (9, .lst false (List.map (bM eVa) l)), (3, .ptr 2 0), (2, .ptr 1 0)]⟩, ⟨[(2, .cells [.bool false, .bool s1.null, .bool s1.fls, .bool s1.tru, aQ s1.ints, aQ s1.bK, aC s1.strs, .lst false (s2.map (aO eVa)), .lst false (s3.map (aF eVa))]), (1, .cells [.bool false, .bool false, .bool false, .bool false, .az, .az, .az, .az, .az]), (0, aS)], 3, 0, [], []⟩, List.length (l) - iw)) ⟨(0, _, _, _), hm⟩ ?_
 rintro ⟨i2, s1_2, s2_2, s3_2⟩ hq2
 dsimp only at hq2
 refine z ?_
 refine bkd (fun h3 => z ?_) (fun h3 => z ?_)
 obtain ⟨x3, ex3, ed3⟩ := au h3
 rw [ed3, unL] at hq2
 refine z ?_
 refine a6 ex3 rfl (z ?_)
 refine brk (fun h4 => z ?_) (fun h4 => z ?_)
 rw [if_pos h4] at hq2
 cases hq2
 refine aR (z ?_)
 exact mt
 rw [if_neg (nt h4)] at hq2
 obtain ⟨hg5, hq2⟩ := aj hq2
 obtain ⟨hg6, hq2⟩ := aj hq2
 obtain ⟨hg7, hq2⟩ := aj hq2
 refine z ?_
 refine ⟨_, _, rfl, (Int.natCast_add _ _).symm, by omega, by omega, zt ?_⟩
 refine z ?_
 refine ⟨by simp only [List.length_map, List.length_replicate], ?_⟩
 refine z ?_
 refine zt (z ?_)
 refine dg aa [0,1,0,4,15,0,0,64,255,0,512,0,2048,7680,16383,32767,65535] [] (z ?_)
 obtain ⟨v10, e10, hq2⟩ := ae hq2
 refine ct (orS_ok e10) (z ?_)
 obtain ⟨hg11, hq2⟩ := dN hq2
 refine z ?_
 refine hM (z ?_)
 obtain ⟨v12, e12, hq2⟩ := ae hq2
 refine eA (concSc_ok e12) (z ?_)
 refine sy rfl rfl ?_
 refine uQ 2 7 rfl rfl rfl ?_
 exact bk ⟨(i2 + 1, _, _, _), hq2⟩
 rw [av h3, unL] at hq2
 obtain ⟨v13, e13, hq2⟩ := ae hq2
 refine ct (q8 e13) (z ?_)
 cases hq2
 exact mst
def dOrL (marks : List Bool) (sm : Bool) : List Va → Int → List (Vlu Va) → List (Vlu Va) → Option (Va × Int)
 | [], _, al, pr => (u3 al).bind fun v => (u3 pr).bind fun d => some (.mk v d, 0)
 | x :: r, i, al, pr => (nu x).bind fun ok => if ok then (push al x.v).bind fun al => (atI marks i).bind fun m => if m then (push pr x.d).bind fun pr => dOrL marks sm r (i + 1) al pr else if sm then dOrL marks sm r (i + 1) al pr else (push pr x.d).bind fun pr => dOrL marks sm r (i + 1) al pr else some (zVa, 11)
def disOr (l : List Va) (marks : List Bool) : Option (Va × Int) := (aN l).bind fun _ => if (l.length : Int) = 0 then some (zVa, 2) else (aN marks).bind fun _ => if (l.length : Int) = marks.length then (conB marks true).bind fun sm => dOrL marks sm l 0 [] [] else some (zVa, 2)
theorem disOr_ok {l : List Va} {marks : List Bool} {r : Va × Int} (hm : disOr l marks = some r) : aY Tryz.prog 12 [.lst false (l.map eVa), .lst false (marks.map cD)] fun s => s = .tup [.agg (uVa r.1), .int .i64 r.2] := by
 refine ht aa Tryz.f12 ?_
 unfold disOr at hm
 refine z ?_
 obtain ⟨hg1, hm⟩ := aj hm
 refine bkd (fun h2 => z ?_) (fun h2 => z ?_)
 rw [if_pos h2] at hm
 cases hm
 refine aR (z ?_)
 exact mt
 rw [if_neg h2] at hm
 obtain ⟨hg3, hm⟩ := aj hm
 refine bkn (fun h4 => z ?_) (fun h4 => z ?_)
 rw [if_neg h4] at hm
 cases hm
 refine aR (z ?_)
 exact mt
 rw [if_pos h4] at hm
 obtain ⟨v5, e5, hm⟩ := ae hm
 refine ce (vW e5) (z ?_)
 refine b0 7 9 rfl ?_
 refine b0 8 9 rfl ?_
 refine lg (α := Nat × List (Vlu Va) × List (Vlu Va) × Nat × Nat) aa (fun (iw, s1, s2, ts1, ts2) => (dOrL (marks) (v5) (List.drop iw (l)) (iw : Int) s1 s2 = some r, ⟨59, [(8, .own 3 ts2), (7, .own 2 ts1), (26, .int .i64 iw), (25, .int .i64 ↑l.length), (24, .lst false (List.map eVa l)), (6, .bool v5), (5, .int .i64 0), (4, .ptr 1 0), (1, .lst false (List.map cD marks))]⟩, ⟨[(3, .row 9 (s2.map (bM eVa)) ts2 false), (2, .row 9 (s1.map (bM eVa)) ts1 false), (1, .cells [.bool false, .bool false, .bool false, .bool false, .az, .az, .az, .az, .az, .bool false, .bool false, .bool false, .bool false, .az, .az, .az, .az, .az]), (0, aS)], 4, 0, [], []⟩, List.length (l) - iw)) ⟨(0, _, _, (0), (0)), hm⟩ ?_
 rintro ⟨i6, s1_6, s2_6, ts1_6, ts2_6⟩ hq6
 dsimp only at hq6
 refine z ?_
 refine bkd (fun h7 => z ?_) (fun h7 => z ?_)
 obtain ⟨x7, ex7, ed7⟩ := au h7
 rw [ed7, dOrL] at hq6
 refine z ?_
 refine bo (bX _) ex7 rfl (z ?_)
 obtain ⟨v8, e8, hq6⟩ := ae hq6
 refine ct (tE e8) (z ?_)
 refine bkm (fun h9 => z ?_) (fun h9 => z ?_)
 rw [if_neg (nt h9)] at hq6
 cases hq6
 refine aR (z ?_)
 exact mt
 rw [if_pos h9] at hq6
 obtain ⟨hg10, hq6⟩ := aD hq6
 refine z ?_
 refine aH (x7.v) rfl (z ?_)
 obtain ⟨j11, x11, en11, ex11, hq6⟩ := aB hq6
 refine bf en11 ex11 rfl (z ?_)
 refine brk (fun h12 => z ?_) (fun h12 => z ?_)
 rw [if_pos h12] at hq6
 obtain ⟨hg13, hq6⟩ := aD hq6
 refine z ?_
 refine aH (x7.d) rfl (z ?_)
 exact bk ⟨(i6 + 1, _, _, (ts1_6 + 1), (ts2_6 + 1)), hq6⟩
 rw [if_neg (nt h12)] at hq6
 refine bkm (fun h14 => z ?_) (fun h14 => z ?_)
 rw [if_neg (nt h14)] at hq6
 obtain ⟨hg15, hq6⟩ := aD hq6
 refine z ?_
 refine aH (x7.d) rfl (z ?_)
 exact bk ⟨(i6 + 1, _, _, (ts1_6 + 1), (ts2_6 + 1)), hq6⟩
 rw [if_pos h14] at hq6
 exact bk ⟨(i6 + 1, _, _, (ts1_6 + 1), (ts2_6)), hq6⟩
 rw [av h7, dOrL] at hq6
 obtain ⟨v16, e16, hq6⟩ := ae hq6
 refine bq (tF e16) (z ?_)
 obtain ⟨v17, e17, hq6⟩ := ae hq6
 refine bq (tF e17) (z ?_)
 cases hq6
 exact mst
/-! paths -/
def sgn (b : Bool) : Option Int := if b then some (-1) else some 1
theorem qp {b : Bool} {r : Int} (hm : sgn b = some r) : Has Tryz.prog 39 [.bool b] fun s => s = .int .i64 r := by
 refine hs aa Tryz.f39 ?_
 unfold sgn at hm
 refine z ?_
 refine brk (fun h1 => z ?_) (fun h1 => z ?_)
 rw [if_pos h1] at hm
 cases hm
 exact fc
 rw [if_neg (nt h1)] at hm
 cases hm
 exact fc
def oneP (a b : Stp) : Option Int := if (decide (a.label = []) == decide (b.label = [])) then if a.label = b.label then if a.index = b.index then some 0 else sgn (decide (a.index < b.index)) else sgn (Op.bytesLess a.label b.label) else sgn (!decide (a.label = []))
theorem oneP_ok {a b : Stp} {r : Int} (hm : oneP a b = some r) : Has Tryz.prog 38 [.agg (gY a), .agg (gY b)] fun s => s = .int .i64 r := by
 refine hs aa Tryz.f38 ?_
 unfold oneP at hm
 refine z ?_
 refine bkm (fun h1 => z ?_) (fun h1 => z ?_)
 rw [if_neg (nt h1)] at hm
 replace hm := aG hm
 obtain ⟨v2, e2, hm⟩ := ae hm
 refine ce (qp e2) (z ?_)
 cases hm
 exact fc
 rw [if_pos h1] at hm
 refine bkn (fun h3 => z ?_) (fun h3 => z ?_)
 rw [if_neg h3] at hm
 replace hm := aG hm
 obtain ⟨v4, e4, hm⟩ := ae hm
 refine ce (qp e4) (z ?_)
 cases hm
 exact fc
 rw [if_pos h3] at hm
 refine bkn (fun h5 => z ?_) (fun h5 => z ?_)
 rw [if_neg h5] at hm
 replace hm := aG hm
 obtain ⟨v6, e6, hm⟩ := ae hm
 refine ce (qp e6) (z ?_)
 cases hm
 exact fc
 rw [if_pos h5] at hm
 cases hm
 exact fc
def cmpPE (a b : List Stp) : Option Int := (aN a).bind fun _ => (aN b).bind fun _ => if (a.length : Int) = b.length then some 0 else sgn (decide ((a.length : Int) < b.length))
def zd (a b : List Stp) : Nat → Int → Option Int
 | 0, _ => none
 | f + 1, i => (aN a).bind fun _ => if i < (a.length : Int) then (aN b).bind fun _ => if i < (b.length : Int) then (atI a i).bind fun x => (atI b i).bind fun y => (oneP x y).bind fun n => if n = 0 then zd a b f (i + 1) else some n else cmpPE a b else cmpPE a b
def cmpP (a b : List Stp) : Option Int := zd a b (a.length + 1) 0
theorem cmpP_ok {a b : List Stp} {r : Int} (hm : cmpP a b = some r) : Has Tryz.prog 25 [.lst false (a.map gY), .lst false (b.map gY)] fun s => s = .int .i64 r := by
 refine hs aa Tryz.f25 ?_
 unfold cmpP at hm
 refine z ?_
 refine lg (α := Nat × Int) aa (fun (nw, s1) => (zd (a) (b) nw s1 = some r, ⟨42, [(5, .int .i64 s1), (4, .int .i64 0), (0, .lst false (List.map gY a)), (1, .lst false (List.map gY b))]⟩, ⟨[], 0, 0, [], []⟩, nw)) ⟨(_, _), hm⟩ ?_
 rintro ⟨n1, s1_1⟩ hq1
 dsimp only at hq1
 rcases n1 with _ | n1
 (unfold zd at hq1; cases hq1)
 unfold zd at hq1
 refine z ?_
 obtain ⟨hg2, hq1⟩ := aj hq1
 refine bkd (fun h3 => z ?_) (fun h3 => z ?_)
 rw [if_pos h3] at hq1
 obtain ⟨hg4, hq1⟩ := aj hq1
 refine bkd (fun h5 => z ?_) (fun h5 => z ?_)
 rw [if_pos h5] at hq1
 refine dg aa [0,0,3,7,0,0,48,112,255,511] [] (z ?_)
 obtain ⟨j6, x6, en6, ex6, hq1⟩ := aB hq1
 refine bf en6 ex6 rfl (z ?_)
 obtain ⟨j7, x7, en7, ex7, hq1⟩ := aB hq1
 refine bf en7 ex7 rfl (z ?_)
 obtain ⟨v8, e8, hq1⟩ := ae hq1
 refine ce (oneP_ok e8) (z ?_)
 refine bkn (fun h9 => z ?_) (fun h9 => z ?_)
 rw [if_neg h9] at hq1
 cases hq1
 exact fc
 rw [if_pos h9] at hq1
 exact bk ⟨(n1, _), hq1⟩
 rw [if_neg h5] at hq1
 unfold cmpPE at hq1
 refine z ?_
 obtain ⟨hg10, hq1⟩ := aj hq1
 obtain ⟨hg11, hq1⟩ := aj hq1
 have h12 : ¬ ((↑a.length : Int) = ↑b.length) := by omega
 refine bnt h12 (z ?_)
 rw [if_neg h12] at hq1
 replace hq1 := aG hq1
 obtain ⟨v13, e13, hq1⟩ := ae hq1
 refine ce (qp e13) (z ?_)
 cases hq1
 exact fc
 rw [if_neg h3] at hq1
 unfold cmpPE at hq1
 refine z ?_
 obtain ⟨hg14, hq1⟩ := aj hq1
 obtain ⟨hg15, hq1⟩ := aj hq1
 refine bkn (fun h16 => z ?_) (fun h16 => z ?_)
 rw [if_neg h16] at hq1
 replace hq1 := aG hq1
 obtain ⟨v17, e17, hq1⟩ := ae hq1
 refine ce (qp e17) (z ?_)
 cases hq1
 exact fc
 rw [if_pos h16] at hq1
 cases hq1
 exact fc
def samP (a b : List Stp) : Option Bool := (cmpP a b).bind fun n => some (decide (n = 0))
theorem samP_ok {a b : List Stp} {r : Bool} (hm : samP a b = some r) : Has Tryz.prog 16 [.lst false (a.map gY), .lst false (b.map gY)] fun s => s = .bool r := by
 refine hs aa Tryz.f16 ?_
 unfold samP at hm
 refine z ?_
 obtain ⟨v1, e1, hm⟩ := ae hm
 refine ce (cmpP_ok e1) (z ?_)
 cases hm
 exact fc
def numD (n : Int) : Option Dat := some (gZ 3 n [])
theorem pH {n : Int} {r : Dat} (hm : numD n = some r) : Has Tryz.prog 11 [.int .i64 n] fun s => s = .agg (dw r) := by
 refine hs aa Tryz.f11 ?_
 unfold numD at hm
 refine z ?_
 cases hm
 refine cP (z ?_)
 first | exact rfl | exact ⟨rfl, rfl⟩
end Go.Proofs.YtmjddpeookapaaaGreatDoor
