/- For ConcreteHidden: functions of the program, walked beside Lean functions that say what they compute. -/
import Derived.Test.YtmjddpeookapaaaGreatDoorEn
import Derived.KernelRfl
import Derived.Test.YtmjddpeookapaaaGreatDoorWE
set_option linter.unusedVariables false
set_option linter.unusedSimpArgs false
set_option linter.unusedSectionVars false
namespace Go.Proofs.YtmjddpeookapaaaGreatDoor
open Sv
set_option maxRecDepth 100000
set_option maxHeartbeats 2000000
section
variable {α : Type}
def ctL : List (List α) → Int → Option Int
 | [], n => some n
 | l :: r, n => (aN l).bind fun _ => (cX (n + l.length)).bind fun _ => if n + l.length < 0 then none else ctL r (n + l.length)
def ctA : List (List α) → List α → Option (List α)
 | [], out => some out
 | l :: r, out => (jF out l).bind fun out => ctA r out
def ctM (ll : List (List α)) : Option (List α) := (aN ll).bind fun _ => (ctL ll 0).bind fun n => (grd (n < 1000000000)).bind fun _ => if n < 0 then none else ctA ll []
end
def fK {α : Type} (f : α → List SVal) (l : List α) : List SVal := [.lst false (l.map f)]
instance {α : Type} (f : α → List SVal) [Cl f] : Cl (fK f) := ⟨fun l => by simp only [fK, aw, closed, clR f, Bool.and_self]⟩
theorem ctSp_ok {ll : List (List Sv.Span)} {r : List Sv.Span} (hm : ctM ll = some r) : Has Tryz.prog 78 [.lst false (ll.map (fK b6))] fun s => s = .lst false (r.map b6) := by
 refine hs aa Tryz.f78 ?_
 unfold ctM at hm
 refine z ?_
 obtain ⟨hg1, hm⟩ := aj hm
 obtain ⟨v2, hv2, hm⟩ := ae hm
 refine lg (α := Nat × Int) aa (fun (iw, s1) => (ctL (List.drop iw (ll)) s1 = some v2, ⟨36, [(11, .int .i64 iw), (10, .int .i64 ↑ll.length), (9, .lst false (List.map (fK b6) ll)), (3, .int .i64 s1), (2, .az), (0, .lst false (List.map (fK b6) ll))]⟩, ⟨[], 0, 0, [], []⟩, List.length (ll) - iw)) ⟨(0, _), hv2⟩ ?_
 rintro ⟨i2, s1_2⟩ hq2
 dsimp only at hq2
 refine z ?_
 refine bkd (fun h3 => z ?_) (fun h3 => z ?_)
 obtain ⟨x3, ex3, ed3⟩ := au h3
 rw [ed3, ctL] at hq2
 refine z ?_
 obtain ⟨hg4, hq2⟩ := aj hq2
 obtain ⟨hg5, hq2⟩ := aj hq2
 refine a6 ex3 rfl (z ?_)
 refine bkd (fun h6 => z ?_) (fun h6 => z ?_)
 rw [if_pos h6] at hq2
 cases hq2
 rw [if_neg h6] at hq2
 exact bk ⟨(i2 + 1, _), hq2⟩
 rw [av h3, ctL] at hq2
 cases hq2
 refine z ?_
 refine ci aa Tryz.f117 (z ?_)
 obtain ⟨hg7, hm⟩ := aj hm
 refine bkd (fun h8 => z ?_) (fun h8 => z ?_)
 rw [if_pos h8] at hm
 cases hm
 rw [if_neg h8] at hm
 refine fj (z ?_)
 refine ⟨by simp only [InR, List.length_map, List.length_nil, List.length_cons, List.length_singleton, List.length_append]; omega, ?_⟩
 refine z ?_
 refine ⟨by simp only [InR, List.length_map, List.length_nil, List.length_cons, List.length_singleton, List.length_append]; omega, ?_⟩
 refine z ?_
 refine bkd (fun h9 => z ?_) (fun h9 => z ?_)
 refine ⟨v2.toNat, by simp only [List.length_nil] at *; omega, by simp only [List.length_nil] at *; omega, by omega, as_rep b6 ⟨0, 0⟩ rfl ?_⟩
 refine z ?_
 refine fj (z ?_)
 refine ⟨0, rfl, Nat.zero_le _, as_go (List.map b6 []) rfl ?_⟩
 refine z ?_
 refine ei (z ?_)
 refine lg (α := Nat × List Span × Nat) aa (fun (iw, s1, ts1) => (ctA (List.drop iw (ll)) s1 = some r, ⟨36, [(27, .int .i64 iw), (26, .int .i64 ↑ll.length), (25, .lst false (List.map (fK b6) ll)), (6, .own 0 ts1), (2, .az)]⟩, ⟨[(0, .row 2 (s1.map b6) ts1 false)], 1, 0, [], []⟩, List.length (ll) - iw)) ⟨(0, _, (1)), hm⟩ ?_
 rintro ⟨i10, s1_10, ts1_10⟩ hq10
 dsimp only at hq10
 refine z ?_
 refine bkd (fun h11 => z ?_) (fun h11 => z ?_)
 obtain ⟨x11, ex11, ed11⟩ := au h11
 rw [ed11, ctA] at hq10
 refine z ?_
 refine a6 ex11 rfl (z ?_)
 obtain ⟨hg12, hq10⟩ := dN hq10
 refine z ?_
 refine hM (z ?_)
 exact bk ⟨(i10 + 1, _, (ts1_10 + 1)), hq10⟩
 rw [av h11, ctA] at hq10
 cases hq10
 refine cP (z ?_)
 first | exact e2 | exact rfl
 refine z ?_
 refine ei (z ?_)
 refine b0 6 2 rfl ?_
 refine lg (α := Nat × List Span × Nat) aa (fun (iw, s1, ts1) => (ctA (List.drop iw (ll)) s1 = some r, ⟨36, [(6, .own 0 ts1), (27, .int .i64 iw), (26, .int .i64 ↑ll.length), (25, .lst false (List.map (fK b6) ll)), (2, .az)]⟩, ⟨[(0, .row 2 (s1.map b6) ts1 false)], 1, 0, [], []⟩, List.length (ll) - iw)) ⟨(0, _, (0)), hm⟩ ?_
 rintro ⟨i13, s1_13, ts1_13⟩ hq13
 dsimp only at hq13
 refine z ?_
 refine bkd (fun h14 => z ?_) (fun h14 => z ?_)
 obtain ⟨x14, ex14, ed14⟩ := au h14
 rw [ed14, ctA] at hq13
 refine z ?_
 refine a6 ex14 rfl (z ?_)
 obtain ⟨hg15, hq13⟩ := dN hq13
 refine z ?_
 refine hM (z ?_)
 exact bk ⟨(i13 + 1, _, (ts1_13 + 1)), hq13⟩
 rw [av h14, ctA] at hq13
 cases hq13
 refine cP (z ?_)
 first | exact e2 | exact rfl
theorem mP {c : Prop} [Decidable c] (h : c) : grd c = some () := by unfold grd; rw [if_pos h]
theorem i64_pos (n : Int) (h1 : 0 ≤ n) (h2 : n ≤ 1000000000) : cX n = some () := mP ⟨by omega, by omega⟩
theorem ctA_two {α : Type} {a b : List α} (h : a.length + b.length < 1000000000) : ctA [a, b] [] = some (a ++ b) := by
 simp only [ctA, jF]
 rw [if_pos (by simp; omega), Option.bind_some, if_pos (by simp; omega), Option.bind_some, List.nil_append]
theorem ctL_two {α : Type} {a b : List α} (h : a.length + b.length < 1000000000) : ctL [a, b] 0 = some (0 + (a.length : Int) + b.length) := by
 have g2 : aN a = some () := mP (by omega)
 have g3 : aN b = some () := mP (by omega)
 simp only [ctL]
 rw [g2, g3, Option.bind_some, i64_pos _ (by omega) (by omega), Option.bind_some, if_neg (by omega), Option.bind_some, i64_pos _ (by omega) (by omega), Option.bind_some, if_neg (by omega)]
theorem ctM_two {α : Type} {a b : List α} (h : a.length + b.length < 1000000000) : ctM [a, b] = some (a ++ b) := by
 have g1 : aN [a, b] = some () := mP (by simp)
 have g2 : grd (0 + (a.length : Int) + b.length < 1000000000) = some () := mP (by omega)
 unfold ctM
 rw [g1, Option.bind_some, ctL_two h, Option.bind_some, g2, Option.bind_some, if_neg (by omega), ctA_two h]
def jU {α : Type} (a b : List α) : Option (List α) := if a.length + b.length < 1000000000 then some (a ++ b) else none
theorem rM {α : Type} {a b r : List α} (h : jU a b = some r) : ctM [a, b] = some r := by
 unfold jU at h
 by_cases hl : a.length + b.length < 1000000000
 ·rw [if_pos hl] at h; rw [ctM_two hl]; exact h
 ·rw [if_neg hl] at h; cases h
theorem uz {a b r : List Sv.Span} (hm : jU a b = some r) : Has Tryz.prog 78 [.lst false [[aQ a], [aQ b]]] fun s => s = aQ r := ctSp_ok (rM hm)
end Go.Proofs.YtmjddpeookapaaaGreatDoor
