/- For ConcreteHidden: functions of the program, walked beside Lean functions that say what they compute. -/
import Derived.Test.YtmjddpeookapaaaGreatDoorEn
import Derived.KernelRfl
import Derived.Test.YtmjddpeookapaaaGreatDoorMc
import Derived.Test.YtmjddpeookapaaaGreatDoorSvG
set_option linter.unusedVariables false
set_option linter.unusedSimpArgs false
set_option linter.unusedSectionVars false
namespace Go.Proofs.YtmjddpeookapaaaGreatDoor
open Sv
set_option maxRecDepth 100000
set_option maxHeartbeats 2000000
def fv (l : List Bool) : List SVal := [.lst false (l.map cD)]
instance : Cl fv := ⟨fun l => by simp only [fv, aw, closed, clR cD, Bool.and_self]⟩
def eB8 (b : UInt8) : List SVal := [.int .u8 b.toNat]
instance : Cl eB8 := ⟨fun _ => rfl⟩
theorem eB8_of {b : Int} (h : 0 ≤ b ∧ b < 256) : eB8 (UInt8.ofNat b.toNat) = [.int .u8 b] := by
 unfold eB8
 have : ((UInt8.ofNat b.toNat).toNat : Int) = b := by
  rw [UInt8.toNat_ofNat']; omega
 rw [this]
instance : Cl jR := ⟨fun _ => rfl⟩
abbrev Wst := List (List UInt8)
def wvY (n : Int) (w : List UInt8) (out : Wst) : Option (Wst × Bool) := (push out w).bind fun out => (aN out).bind fun _ => if (out.length : Int) = (if 1000 < n then 1000 else n) then some (out, false) else some (out, true)
noncomputable def gH (done : Bool) : gD := ⟨⟨24, [(5, .ptr 3 0), (3, .ptr 2 0)]⟩, (kD Tryz.f121).1, (kD Tryz.f121).2.1, (kD Tryz.f121).2.2, Bool.rec 0 2 done, Bool.rec none (some (.exit 0)) done⟩
abbrev RecW := Int → List UInt8 → Wst → Option (Wst × Bool)
def wvB (rec : RecW) (tb : List (List Bool)) (left : Int) (e : Sv.Edge) (pre : List UInt8) : Nat → Int → Wst → Option (Ctl (Wst × Bool) Wst)
 | 0, _, _ => none
 | f + 1, b, out => (je e.hi).bind fun _ => if b ≤ e.hi then (cX (left - 1)).bind fun _ => (atI tb (left - 1)).bind fun row => (atI row e.to).bind fun ok => if ok then (je b).bind fun _ => (push pre (UInt8.ofNat b.toNat)).bind fun pre' => (rec e.to pre' out).bind fun p => if p.2 then wvB rec tb left e pre f (b + 1) p.1 else some (.ret (p.1, false)) else some (.nxt out) else some (.nxt out)
def wvE (rec : RecW) (tb : List (List Bool)) (left : Int) (pre : List UInt8) : List Sv.Edge → Wst → Option (Wst × Bool)
 | [], out => some (out, true)
 | e :: r, out => (je e.lo).bind fun _ => (wvB rec tb left e pre 258 e.lo out).bind fun
  | .ret x => some x
  | .nxt out => wvE rec tb left pre r out
def wvV (a : List Stt) (tb : List (List Bool)) (n : Int) : Nat → RecW
 | 0, s, pre, out => wvY n pre out
 | k + 1, s, pre, out => (atI a s).bind fun x => (aN x.aL).bind fun _ => wvE (wvV a tb n k) tb (k + 1 : Nat) pre x.aL out
noncomputable def er (a0 : List Stt) (n : Int) (out : Wst) (t : Nat) (done : Bool) (r : List aV) : List aV :=
 aS :: .cells [aC a0] :: .cells [.int .i64 n] :: .cells [.own 4 t] :: .row 1 (out.map jR) t false :: .loop (gH done) :: r
theorem vA (m : Nat) (a : List Stt) : nb m (aC a) = true := b7 _ _ _
theorem bO {m : Nat} (hm : 6 ≤ m) (a0 : List Stt) (n : Int) (out : Wst) (t : Nat) (done : Bool) {r : List aV} (h : iO m r) : iO m (er a0 n out t done r) := by
 refine ⟨rfl, aW _ _ (by decide), rfl, by simp only [nbO, nbL, vA, Bool.and_self], rfl, rfl, rfl, ?_, rfl, b7 _ _ _, rfl, ?_, h⟩
 ·simp only [nbO, nbL, nb, Bool.and_true, decide_eq_true_eq]; omega
 ·simp only [nbO, gH, nbF, nb, Bool.and_true, Bool.and_eq_true, decide_eq_true_eq]; omega
noncomputable def uX (a : List Stt) (tb : List (List Bool)) : List aV :=
 [.cells [aC a], .cells [.func (.yield 5) [] []], .cells [.lst false (tb.map fv)], .cells [.func (.func 264) [] [.ptr 7 0, .ptr 6 0, .ptr 8 0, .ptr 9 0]]]
theorem dK (a : List Stt) (tb : List (List Bool)) : iO 10 (uX a tb) :=
 ⟨rfl, by simp only [nbO, nbL, vA, Bool.and_self], rfl, rfl, rfl, by simp only [nbO, nbL, nb, b7, Bool.and_self], rfl, rfl, trivial⟩
theorem wvV_ok {a0 a : List Stt} {tb : List (List Bool)} {n : Int} : ∀ {k : Nat} {s : Int} {pre : List UInt8} {out : Wst} {p : Wst × Bool} {t : Nat} (hm : wvV a tb n k s pre out = some p),
  sK Tryz.prog 264 (er a0 n out t false (uX a tb)) [.int .i64 s, .int .i64 k, .lst false (pre.map eB8), .ptr 7 0, .ptr 6 0, .ptr 8 0, .ptr 9 0] fun v os => v = .bool p.2 ∧ ∃ t', os = er a0 n p.1 t' (!p.2) (uX a tb) := by
 intro k
 induction k with
 | zero =>
  intro s pre out p t hm
  refine jM aa (fn := Tryz.f264) rfl [(0, aS), (1, .cells [aC a0]), (2, .cells [.int .i64 n]), (3, .cells [.own 4 t]), (4, .row 1 (out.map jR) t false), (5, .loop (gH false)), (6, .cells [aC a]), (7, .cells [.func (.yield 5) [] []]), (8, .cells [.lst false (tb.map fv)]), (9, .cells [.func (.func 264) [] [.ptr 7 0, .ptr 6 0, .ptr 8 0, .ptr 9 0]])] 10 rfl rfl (bO (by omega) _ _ _ _ _ (dK _ _)) (by simp only [nb, nbL, b7, Bool.and_self]; rfl) ?_
  unfold wvV wvY at hm
  refine z ?_
  refine ⟨pre, .lst, ?_⟩
  refine z ?_
  refine pV aa rfl rfl rfl ⟨rfl, rfl, (by decide : 0 < 10), rfl, (by simp only [nb, nbL, nbO, nbF, nbR, aC, aQ, b7, cz, cV, Bool.and_self, Bool.true_and, Bool.and_true]), (by decide : 1 < 10), rfl, rfl, (by decide : 2 < 10), rfl, rfl, (by decide : 3 < 10), rfl, b7 _ _ _, (by decide : 4 < 10), rfl, rfl, (by decide : 5 < 10), rfl, (by simp only [nb, nbL, nbO, nbF, nbR, aC, aQ, b7, cz, cV, Bool.and_self, Bool.true_and, Bool.and_true]), (by decide : 6 < 10), rfl, rfl, (by decide : 7 < 10), rfl, (by simp only [nb, nbL, nbO, nbF, nbR, b7, cz, Bool.and_self, Bool.true_and, Bool.and_true]), (by decide : 8 < 10), rfl, rfl, (by decide : 9 < 10), trivial⟩ rfl (z ?_)
  refine asg_go rfl (z ?_)
  obtain ⟨hg1, hm⟩ := aD hm
  refine z ?_
  refine aH (pre) rfl (z ?_)
  obtain ⟨hg2, hm⟩ := aj hm
  refine bkd (fun h3 => z ?_) (fun h3 => z ?_)
  ·rw [if_pos h3] at hm
   refine pz _ rfl (by omega) ⟨rfl, rfl, (by decide : 10 < 11), rfl, rfl, (by decide : 0 < 11), rfl, (by simp only [nb, nbL, nbO, nbF, nbR, aC, aQ, b7, cz, cV, Bool.and_self, Bool.true_and, Bool.and_true]), (by decide : 1 < 11), rfl, rfl, (by decide : 2 < 11), rfl, rfl, (by decide : 3 < 11), rfl, b7 _ _ _, (by decide : 4 < 11), rfl, rfl, (by decide : 5 < 11), rfl, (by simp only [nb, nbL, nbO, nbF, nbR, aC, aQ, b7, cz, cV, Bool.and_self, Bool.true_and, Bool.and_true]), (by decide : 6 < 11), rfl, rfl, (by decide : 7 < 11), rfl, (by simp only [nb, nbL, nbO, nbF, nbR, b7, cz, Bool.and_self, Bool.true_and, Bool.and_true]), (by decide : 8 < 11), rfl, rfl, (by decide : 9 < 11), trivial⟩ (z ?_)
   cases hm
   exact cy (cU (er a0 n _ _ true (uX a tb)) rfl ⟨rfl, rfl, rfl, rfl, rfl, rfl, rfl, rfl, rfl, rfl, trivial⟩ (bO (by omega) _ _ _ _ _ (dK _ _)) rfl (by omega) ⟨rfl, _, rfl⟩)
  ·rw [if_neg h3] at hm
   refine pz _ rfl (by omega) ⟨rfl, rfl, (by decide : 10 < 11), rfl, rfl, (by decide : 0 < 11), rfl, (by simp only [nb, nbL, nbO, nbF, nbR, aC, aQ, b7, cz, cV, Bool.and_self, Bool.true_and, Bool.and_true]), (by decide : 1 < 11), rfl, rfl, (by decide : 2 < 11), rfl, rfl, (by decide : 3 < 11), rfl, b7 _ _ _, (by decide : 4 < 11), rfl, rfl, (by decide : 5 < 11), rfl, (by simp only [nb, nbL, nbO, nbF, nbR, aC, aQ, b7, cz, cV, Bool.and_self, Bool.true_and, Bool.and_true]), (by decide : 6 < 11), rfl, rfl, (by decide : 7 < 11), rfl, (by simp only [nb, nbL, nbO, nbF, nbR, b7, cz, Bool.and_self, Bool.true_and, Bool.and_true]), (by decide : 8 < 11), rfl, rfl, (by decide : 9 < 11), trivial⟩ (z ?_)
   cases hm
   exact cy (cU (er a0 n _ _ false (uX a tb)) rfl ⟨rfl, rfl, rfl, rfl, rfl, rfl, rfl, rfl, rfl, rfl, trivial⟩ (bO (by omega) _ _ _ _ _ (dK _ _)) rfl (by omega) ⟨rfl, _, rfl⟩)
 | succ k ih =>
  intro s pre out p t hm
  refine jM aa (fn := Tryz.f264) rfl [(0, aS), (1, .cells [aC a0]), (2, .cells [.int .i64 n]), (3, .cells [.own 4 t]), (4, .row 1 (out.map jR) t false), (5, .loop (gH false)), (6, .cells [aC a]), (7, .cells [.func (.yield 5) [] []]), (8, .cells [.lst false (tb.map fv)]), (9, .cells [.func (.func 264) [] [.ptr 7 0, .ptr 6 0, .ptr 8 0, .ptr 9 0]])] 10 rfl rfl (bO (by omega) _ _ _ _ _ (dK _ _)) (by simp only [nb, nbL, b7, Bool.and_self]; rfl) ?_
  unfold wvV at hm
  rcases pre with _ | ⟨p0, pre⟩
  ·refine z ?_
   obtain ⟨j1, x1, en1, ex1, hm⟩ := aB hm
   refine bf en1 ex1 rfl (z ?_)
   obtain ⟨hg2, hm⟩ := aj hm
   refine lg (α := Nat × Wst × Nat) aa (fun (iw, s1, ts1) => (wvE (wvV a tb n k) (tb) (↑(k + 1)) ([]) (List.drop iw (x1.aL)) s1 = some p, ⟨70, [(27, .int .i64 iw), (26, .int .i64 ↑x1.aL.length), (25, .lst false (List.map ck x1.aL)), (10, .bool false), (1, .int .i64 ↑(k + 1)), (2, .lst false (List.map eB8 [])), (5, .ptr 8 0), (6, .ptr 9 0)]⟩, ⟨[(0, aS), (1, .cells [aC a0]), (2, .cells [.int .i64 n]), (3, .cells [.own 4 ts1]), (4, .row 1 (s1.map jR) ts1 false), (5, .loop (gH false)), (6, .cells [aC a]), (7, .cells [.func (Fn.yield 5) [] []]), (8, .cells [.lst false (List.map fv tb)]), (9, .cells [.func (.func 264) [] [.ptr 7 0, .ptr 6 0, .ptr 8 0, .ptr 9 0]])], 10, 0, [], []⟩, List.length (x1.aL) - iw)) ⟨(0, _, (t)), hm⟩ ?_
   rintro ⟨i3, s1_3, ts1_3⟩ hq3
   dsimp only at hq3
   refine z ?_
   refine bkd (fun h4 => z ?_) (fun h4 => z ?_)
   ·obtain ⟨x4, ex4, ed4⟩ := au h4
    rw [ed4, wvE] at hq3
    refine z ?_
    obtain ⟨hg5, hq3⟩ := aj hq3
    refine a6 ex4 rfl (z ?_)
    obtain ⟨v6, hv6, hq3⟩ := ae hq3
    refine lg (α := Nat × Int × Wst × Nat) aa (fun (nw, s1, s2, ts2) => (wvB (wvV a tb n k) (tb) (↑(k + 1)) (x4) ([]) nw s1 s2 = some v6, ⟨70, [(13, .int .i64 s1), (12, .ptr 10 0), (27, .int .i64 ↑i3), (26, .int .i64 ↑x1.aL.length), (25, .lst false (List.map ck x1.aL)), (10, .bool false), (1, .int .i64 ↑(k + 1)), (2, .lst false (List.map eB8 [])), (5, .ptr 8 0), (6, .ptr 9 0)]⟩, ⟨[(10, .cells [.int .u8 x4.lo, .int .u8 x4.hi, .int .i64 x4.to]), (0, aS), (1, .cells [aC a0]), (2, .cells [.int .i64 n]), (3, .cells [.own 4 ts2]), (4, .row 1 (s2.map jR) ts2 false), (5, .loop (gH false)), (6, .cells [aC a]), (7, .cells [.func (Fn.yield 5) [] []]), (8, .cells [.lst false (List.map fv tb)]), (9, .cells [.func (.func 264) [] [.ptr 7 0, .ptr 6 0, .ptr 8 0, .ptr 9 0]])], 11, 0, [], []⟩, nw)) ⟨(_, _, _, (ts1_3)), hv6⟩ ?_
    rintro ⟨n6, s1_6, s2_6, ts2_6⟩ hq6
    dsimp only at hq6
    rcases n6 with _ | n6
    ·(unfold wvB at hq6; cases hq6)
    unfold wvB at hq6
    refine z ?_
    refine dg aa [0,0,2,6,15,31,63,63,191,511,1023,63,2111,8191,16383,32767] [] (z ?_)
    obtain ⟨hg7, hq6⟩ := aj hq6
    refine z ?_
    refine bkd (fun h8 => z ?_) (fun h8 => z ?_)
    ·rw [if_pos h8] at hq6
     obtain ⟨hg9, hq6⟩ := aj hq6
     refine z ?_
     obtain ⟨j11, x11, en11, ex11, hq6⟩ := aB hq6
     refine bf en11 ex11 rfl (z ?_)
     obtain ⟨j12, x12, en12, ex12, hq6⟩ := aB hq6
     refine bf en12 ex12 rfl (z ?_)
     refine brk (fun h13 => z ?_) (fun h13 => z ?_)
     ·rw [if_pos h13] at hq6
      refine dg aa [0,0,2,0,8,0,0,64,0,256,992,0,2048,6144,16352,32767,65535] [] (z ?_)
      obtain ⟨hg14, hq6⟩ := aj hq6
      refine ⟨0, _, rfl, rfl, rfl, Nat.zero_le _, by simp only [List.length_map]; omega, ?_⟩
      refine z ?_
      refine as_all (z ?_)
      obtain ⟨hg15, hq6⟩ := aD hq6
      refine z ?_
      refine wB eB8 (UInt8.ofNat s1_6.toNat) (eB8_of (by omega)) (z ?_)
      obtain ⟨v16, e16, hq6⟩ := ae hq6
      refine gz (ih (t := ts2_6) e16) (z ?_)
      refine ⟨by rw [show ((k + 1 : Nat) : Int) - 1 = (k : Int) by omega] <;> rfl, ⟨rfl, rfl, rfl, rfl, rfl, rfl, rfl, rfl, rfl, rfl, trivial⟩, ?_⟩
      rintro _ _ ⟨rfl, t16, rfl⟩
      rcases v16 with ⟨o16, _ | _⟩ <;> dsimp only at hq6
      ·refine z ?_
       rw [if_neg Bool.false_ne_true] at hq6
       cases hq6
       dsimp only at hq3
       cases hq3
       exact cy (cU (er a0 n _ _ true (uX a tb)) rfl ⟨rfl, rfl, rfl, rfl, rfl, rfl, rfl, rfl, rfl, rfl, trivial⟩ (bO (by omega) _ _ _ _ _ (dK _ _)) rfl (by omega) ⟨rfl, _, rfl⟩)
      ·refine z ?_
       rw [if_pos rfl] at hq6
       exact bk ⟨(n6, _, _, (t16)), hq6⟩
     ·rw [if_neg (nt h13)] at hq6
      cases hq6
      dsimp only at hq3
      refine z ?_
      exact bk ⟨(i3 + 1, _, (ts2_6)), hq3⟩
    ·rw [if_neg h8] at hq6
     cases hq6
     dsimp only at hq3
     refine z ?_
     exact bk ⟨(i3 + 1, _, (ts2_6)), hq3⟩
   ·rw [av h4, wvE] at hq3
    cases hq3
    exact cy (cU (er a0 n _ _ false (uX a tb)) rfl ⟨rfl, rfl, rfl, rfl, rfl, rfl, rfl, rfl, rfl, rfl, trivial⟩ (bO (by omega) _ _ _ _ _ (dK _ _)) rfl (by omega) ⟨rfl, _, rfl⟩)
  ·refine z ?_
   obtain ⟨j1, x1, en1, ex1, hm⟩ := aB hm
   refine bf en1 ex1 rfl (z ?_)
   obtain ⟨hg2, hm⟩ := aj hm
   refine lg (α := Nat × Wst × Nat) aa (fun (iw, s1, ts1) => (wvE (wvV a tb n k) (tb) (↑(k + 1)) (p0 :: pre) (List.drop iw (x1.aL)) s1 = some p, ⟨70, [(27, .int .i64 iw), (26, .int .i64 ↑x1.aL.length), (25, .lst false (List.map ck x1.aL)), (10, .bool false), (1, .int .i64 ↑(k + 1)), (2, .lst false (List.map eB8 (p0 :: pre))), (5, .ptr 8 0), (6, .ptr 9 0)]⟩, ⟨[(0, aS), (1, .cells [aC a0]), (2, .cells [.int .i64 n]), (3, .cells [.own 4 ts1]), (4, .row 1 (s1.map jR) ts1 false), (5, .loop (gH false)), (6, .cells [aC a]), (7, .cells [.func (Fn.yield 5) [] []]), (8, .cells [.lst false (List.map fv tb)]), (9, .cells [.func (.func 264) [] [.ptr 7 0, .ptr 6 0, .ptr 8 0, .ptr 9 0]])], 10, 0, [], []⟩, List.length (x1.aL) - iw)) ⟨(0, _, (t)), hm⟩ ?_
   rintro ⟨i3, s1_3, ts1_3⟩ hq3
   dsimp only at hq3
   refine z ?_
   refine bkd (fun h4 => z ?_) (fun h4 => z ?_)
   ·obtain ⟨x4, ex4, ed4⟩ := au h4
    rw [ed4, wvE] at hq3
    refine z ?_
    obtain ⟨hg5, hq3⟩ := aj hq3
    refine a6 ex4 rfl (z ?_)
    obtain ⟨v6, hv6, hq3⟩ := ae hq3
    refine lg (α := Nat × Int × Wst × Nat) aa (fun (nw, s1, s2, ts2) => (wvB (wvV a tb n k) (tb) (↑(k + 1)) (x4) (p0 :: pre) nw s1 s2 = some v6, ⟨70, [(13, .int .i64 s1), (12, .ptr 10 0), (27, .int .i64 ↑i3), (26, .int .i64 ↑x1.aL.length), (25, .lst false (List.map ck x1.aL)), (10, .bool false), (1, .int .i64 ↑(k + 1)), (2, .lst false (List.map eB8 (p0 :: pre))), (5, .ptr 8 0), (6, .ptr 9 0)]⟩, ⟨[(10, .cells [.int .u8 x4.lo, .int .u8 x4.hi, .int .i64 x4.to]), (0, aS), (1, .cells [aC a0]), (2, .cells [.int .i64 n]), (3, .cells [.own 4 ts2]), (4, .row 1 (s2.map jR) ts2 false), (5, .loop (gH false)), (6, .cells [aC a]), (7, .cells [.func (Fn.yield 5) [] []]), (8, .cells [.lst false (List.map fv tb)]), (9, .cells [.func (.func 264) [] [.ptr 7 0, .ptr 6 0, .ptr 8 0, .ptr 9 0]])], 11, 0, [], []⟩, nw)) ⟨(_, _, _, (ts1_3)), hv6⟩ ?_
    rintro ⟨n6, s1_6, s2_6, ts2_6⟩ hq6
    dsimp only at hq6
    rcases n6 with _ | n6
    ·(unfold wvB at hq6; cases hq6)
    unfold wvB at hq6
    refine z ?_
    refine dg aa [0,0,2,6,15,31,63,63,191,511,1023,63,2111,8191,16383,32767] [] (z ?_)
    obtain ⟨hg7, hq6⟩ := aj hq6
    refine z ?_
    refine bkd (fun h8 => z ?_) (fun h8 => z ?_)
    ·rw [if_pos h8] at hq6
     obtain ⟨hg9, hq6⟩ := aj hq6
     refine z ?_
     obtain ⟨j11, x11, en11, ex11, hq6⟩ := aB hq6
     refine bf en11 ex11 rfl (z ?_)
     obtain ⟨j12, x12, en12, ex12, hq6⟩ := aB hq6
     refine bf en12 ex12 rfl (z ?_)
     refine brk (fun h13 => z ?_) (fun h13 => z ?_)
     ·rw [if_pos h13] at hq6
      refine dg aa [0,0,2,0,8,0,0,64,0,256,992,0,2048,6144,16352,32767,65535] [] (z ?_)
      obtain ⟨hg14, hq6⟩ := aj hq6
      refine ⟨0, _, rfl, rfl, rfl, Nat.zero_le _, by simp only [List.length_map]; omega, ?_⟩
      refine z ?_
      refine as_all (z ?_)
      obtain ⟨hg15, hq6⟩ := aD hq6
      refine z ?_
      refine aH (UInt8.ofNat s1_6.toNat) (eB8_of (by omega)) (z ?_)
      obtain ⟨v17, e17, hq6⟩ := ae hq6
      refine gz (ih (t := ts2_6) e17) (z ?_)
      refine ⟨by rw [show ((k + 1 : Nat) : Int) - 1 = (k : Int) by omega] <;> rfl, ⟨rfl, rfl, rfl, rfl, rfl, rfl, rfl, rfl, rfl, rfl, trivial⟩, ?_⟩
      rintro _ _ ⟨rfl, t17, rfl⟩
      rcases v17 with ⟨o17, _ | _⟩ <;> dsimp only at hq6
      ·refine z ?_
       rw [if_neg Bool.false_ne_true] at hq6
       cases hq6
       dsimp only at hq3
       cases hq3
       exact cy (cU (er a0 n _ _ true (uX a tb)) rfl ⟨rfl, rfl, rfl, rfl, rfl, rfl, rfl, rfl, rfl, rfl, trivial⟩ (bO (by omega) _ _ _ _ _ (dK _ _)) rfl (by omega) ⟨rfl, _, rfl⟩)
      ·refine z ?_
       rw [if_pos rfl] at hq6
       exact bk ⟨(n6, _, _, (t17)), hq6⟩
     ·rw [if_neg (nt h13)] at hq6
      cases hq6
      dsimp only at hq3
      refine z ?_
      exact bk ⟨(i3 + 1, _, (ts2_6)), hq3⟩
    ·rw [if_neg h8] at hq6
     cases hq6
     dsimp only at hq3
     refine z ?_
     exact bk ⟨(i3 + 1, _, (ts2_6)), hq3⟩
   ·rw [av h4, wvE] at hq3
    cases hq3
    exact cy (cU (er a0 n _ _ false (uX a tb)) rfl ⟨rfl, rfl, rfl, rfl, rfl, rfl, rfl, rfl, rfl, rfl, trivial⟩ (bO (by omega) _ _ _ _ _ (dK _ _)) rfl (by omega) ⟨rfl, _, rfl⟩)
end Go.Proofs.YtmjddpeookapaaaGreatDoor
