/- For ConcreteHidden: functions of the program, walked beside Lean functions that say what they compute. -/
import Derived.Test.YtmjddpeookapaaaGreatDoorEn
import Derived.KernelRfl
import Derived.Test.YtmjddpeookapaaaGreatDoorSvG
import Derived.Test.YtmjddpeookapaaaGreatDoorMb
set_option linter.unusedVariables false
set_option linter.unusedSimpArgs false
set_option linter.unusedSectionVars false
namespace Go.Proofs.YtmjddpeookapaaaGreatDoor
open Sv
set_option maxRecDepth 100000
set_option maxHeartbeats 2000000
def vL (next prev : Int → Option Int) (hi : Int) : List Sv.Span → Int → List Sv.Span → Option (List Sv.Span)
 | [], lo, out => if lo ≤ hi then push out ⟨lo, hi⟩ else some out
 | s :: r, lo, out => (prev s.lo).bind fun h => if lo ≤ h then (push out ⟨lo, h⟩).bind fun out => (next s.hi).bind fun lo => vL next prev hi r lo out else (next s.hi).bind fun lo => vL next prev hi r lo out
def gapM (next prev : Int → Option Int) (l : List Sv.Span) (all : Sv.Span) (out : List Sv.Span) : Option (List Sv.Span) := (aN l).bind fun _ => vL next prev all.hi l all.lo out
noncomputable def gLoop : gD := ⟨⟨13, [(2, .ptr 0 0)]⟩, (kD Tryz.f212).1, (kD Tryz.f212).2.1, (kD Tryz.f212).2.2, 0, none⟩
noncomputable def yH (out : List Sv.Span) (t : Nat) : List aV := [.cells [.own 1 t], .row 2 (out.map b6) t false, .loop gLoop]
theorem jN (out : List Sv.Span) (t : Nat) : iO 3 (yH out t) := ⟨rfl, rfl, rfl, b7 _ _ _, rfl, rfl, trivial⟩
theorem gaps1_ok {fn fp : FuncId} {next prev : Int → Option Int} (hn : ∀ {x r}, next x = some r → Has Tryz.prog fn [.int .i64 x] fun s => s = .int .i64 r) (hp : ∀ {x r}, prev x = some r → Has Tryz.prog fp [.int .i64 x] fun s => s = .int .i64 r) {l out : List Sv.Span} {all : Sv.Span} {r : List Sv.Span} {t : Nat} (hm : gapM next prev l all out = some r) :
  sK Tryz.prog 213 (yH out t) [.func (.yield 2) [] [], .bA (b6 all) 0, .bA [aQ l] 0, .bA [.func (.func fp) [] []] 0, .bA [.func (.func fn) [] []] 0] fun v os => v = .tup [] ∧ ∃ t', os = yH r t' := by
 refine jM aa (fn := Tryz.f213) rfl [(0, .cells [.own 1 t]), (1, .row 2 (out.map b6) t false), (2, .loop gLoop)] 3 rfl rfl (jN _ _) (by simp only [nb, nbL, cz, b7, aQ, cV, Bool.and_self]; rfl) ?_
 unfold gapM at hm
 refine z ?_
 obtain ⟨hg1, hm⟩ := aj hm
 refine lg (α := Nat × Int × List Span × Nat) aa (fun (iw, s1, s2, ts2) => (vL (next) (prev) (all.hi) (List.drop iw (l)) s1 s2 = some r, ⟨53, [(15, .int .i64 iw), (14, .int .i64 ↑l.length), (13, aQ l), (6, .int .i64 s1), (0, .func (Fn.yield 2) [] []), (1, .bA (b6 all) 0), (3, .bA [.func (.func fp) [] []] 0), (4, .bA [.func (.func fn) [] []] 0)]⟩, ⟨[(0, .cells [.own 1 ts2]), (1, .row 2 (s2.map b6) ts2 false), (2, .loop gLoop)], 3, 0, [], []⟩, List.length (l) - iw)) ⟨(0, _, _, (t)), hm⟩ ?_
 rintro ⟨i2, s1_2, s2_2, ts2_2⟩ hq2
 dsimp only at hq2
 refine z ?_
 refine bkd (fun h3 => z ?_) (fun h3 => z ?_)
 ·obtain ⟨x3, ex3, ed3⟩ := au h3
  rw [ed3, vL] at hq2
  refine z ?_
  refine a6 ex3 rfl (z ?_)
  obtain ⟨v4, e4, hq2⟩ := ae hq2
  refine ce (hp e4) (z ?_)
  refine bkd (fun h5 => z ?_) (fun h5 => z ?_)
  ·rw [if_pos h5] at hq2
   refine pV aa rfl rfl rfl ⟨rfl, rfl, (by decide : 4 < 5), rfl, rfl, (by decide : 3 < 5), rfl, rfl, (by decide : 0 < 5), rfl, b7 _ _ _, (by decide : 1 < 5), rfl, rfl, (by decide : 2 < 5), trivial⟩ rfl (z ?_)
   refine asg_go rfl (z ?_)
   obtain ⟨hg6, hq2⟩ := aD hq2
   refine z ?_
   refine aH ({ lo := s1_2, hi := v4 }) rfl (z ?_)
   refine pz _ rfl (by omega) ⟨rfl, rfl, (by decide : 6 < 7), rfl, rfl, (by decide : 5 < 7), rfl, rfl, (by decide : 4 < 7), rfl, rfl, (by decide : 3 < 7), rfl, rfl, (by decide : 0 < 7), rfl, b7 _ _ _, (by decide : 1 < 7), rfl, rfl, (by decide : 2 < 7), trivial⟩ (z ?_)
   obtain ⟨v7, e7, hq2⟩ := ae hq2
   refine ce (hn e7) (z ?_)
   exact bk ⟨(i2 + 1, _, _, (ts2_2 + 1)), hq2⟩
  ·rw [if_neg h5] at hq2
   obtain ⟨v8, e8, hq2⟩ := ae hq2
   refine ce (hn e8) (z ?_)
   exact bk ⟨(i2 + 1, _, _, (ts2_2)), hq2⟩
 ·rw [av h3, vL] at hq2
  refine bkd (fun h9 => z ?_) (fun h9 => z ?_)
  ·rw [if_pos h9] at hq2
   refine pV aa rfl rfl rfl ⟨rfl, rfl, (by decide : 3 < 4), rfl, rfl, (by decide : 0 < 4), rfl, b7 _ _ _, (by decide : 1 < 4), rfl, rfl, (by decide : 2 < 4), trivial⟩ rfl (z ?_)
   refine asg_go rfl (z ?_)
   replace hq2 := aG hq2
   obtain ⟨hg11, hq2⟩ := aD hq2
   refine z ?_
   refine aH ({ lo := s1_2, hi := all.hi }) rfl (z ?_)
   refine pz _ rfl (by omega) ⟨rfl, rfl, (by decide : 5 < 6), rfl, rfl, (by decide : 4 < 6), rfl, rfl, (by decide : 3 < 6), rfl, rfl, (by decide : 0 < 6), rfl, b7 _ _ _, (by decide : 1 < 6), rfl, rfl, (by decide : 2 < 6), trivial⟩ (z ?_)
   cases hq2
   exact cy (cU (yH _ _) rfl ⟨rfl, rfl, rfl, trivial⟩ (jN _ _) rfl (by omega) ⟨rfl, _, rfl⟩)
  ·rw [if_neg h9] at hq2
   cases hq2
   exact cy (cU (yH _ _) rfl ⟨rfl, rfl, rfl, trivial⟩ (jN _ _) rfl (by omega) ⟨rfl, _, rfl⟩)
def uD (next prev : Int → Option Int) (l : List Sv.Span) (all : Sv.Span) : Option (List Sv.Span) := (gapM next prev l all []).bind fun r => some r
theorem coll_ok {fn fp : FuncId} {next prev : Int → Option Int} (hn : ∀ {x r}, next x = some r → Has Tryz.prog fn [.int .i64 x] fun s => s = .int .i64 r) (hp : ∀ {x r}, prev x = some r → Has Tryz.prog fp [.int .i64 x] fun s => s = .int .i64 r) {l : List Sv.Span} {all : Sv.Span} {r : List Sv.Span} (hm : uD next prev l all = some r) :
  Has Tryz.prog 179 [.func (.func 213) [] [.bA (b6 all) 0, .bA [aQ l] 0, .bA [.func (.func fp) [] []] 0, .bA [.func (.func fn) [] []] 0]] fun s => s = aQ r := by
 refine hs aa Tryz.f179 ?_
 unfold uD at hm
 refine z ?_
 refine ci aa Tryz.f212 (z ?_)
 refine oI 0 0 2 rfl rfl ?_
 obtain ⟨v1, e1, hm⟩ := ae hm
 refine oJ (t1 := [(2, .ptr 0 0)]) (gaps1_ok hn hp (t := 0) e1) ⟨rfl, rfl, trivial⟩ rfl rfl rfl rfl ⟨rfl, rfl, rfl, trivial⟩ ?_
 rintro _ _ ⟨rfl, t1, rfl⟩
 refine z ?_
 refine ⟨gLoop, .normal, rfl, (fun h => by cases h), rfl, ?_⟩
 refine z ?_
 refine ei (z ?_)
 cases hm
 refine cP (z ?_)
 first | exact e2 | exact rfl
end Go.Proofs.YtmjddpeookapaaaGreatDoor
