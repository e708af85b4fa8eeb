/- For ConcreteHidden: arguments as trees. -/
import Derived.Test.YtmjddpeookapaaaGreatDoorRows
import Derived.ChangeArms
import Derived.DataReads
import Derived.Test.YtmjddpeookapaaaGreatDoorEn
set_option linter.unusedVariables false
set_option linter.unusedSimpArgs false
set_option linter.unusedSectionVars false
namespace Go.Proofs.YtmjddpeookapaaaGreatDoor
open Sv
def fzW (w : World) (b i : Nat) : Option Value := match w.heap[b]? with
 | some (.cells arr _ _) => arr[i]?
 | _ => none
theorem fzW_ok (w : World) (b i : Nat) (v : Value) (h : fzW w b i = some v) : ∃ arr e f, w.heap[b]? = some (.cells arr e f) ∧ arr[i]? = some v := by
 unfold fzW at h
 split at h
 ·rename_i arr e f hb
  exact ⟨arr, e, f, hb, h⟩
 ·cases h
theorem yJ {w : World} {a : Addr} {v : Value} (h : w.cell? a = some v) : a = ⟨a.block, a.off, none⟩ ∧ fzW w a.block a.off = some v := by
 obtain ⟨b, o, s⟩ := a
 unfold World.cell? at h
 unfold fzW
 cases hb : w.heap[b]? with
 | none => rw [hb] at h; cases h
 | some x =>
  rw [hb] at h
  cases x with
  | cells c _ _ =>
   cases s with
   | none => exact ⟨rfl, by simpa using h⟩
   | some s => simp at h
  | _ => cases h
theorem add_eq (b o : Nat) (k : Nat) : (⟨b, o, none⟩ : Addr).add k = ⟨b, o + k, none⟩ := by
 unfold Addr.add
 split
 ·rename_i h0; subst h0; rfl
 ·rfl
def DL (c : Ctx) (l : List SVal) (cs : List Value) : Prop := aM c l cs ∧ ∀ v ∈ cs, v.oneCell' = true
theorem DL.one {c : Ctx} {s : SVal} {v : Value} (h : Den c s v) (h1 : v.oneCell' = true) : DL c [s] [v] := ⟨⟨v, [], h, rfl, rfl⟩, fun x hx => by rw [List.mem_singleton.1 hx]; exact h1⟩
theorem aM.app {c : Ctx} : ∀ {a b : List SVal} {x y : List Value}, aM c a x → aM c b y → aM c (a ++ b) (x ++ y)
 | [], _, _, _, h, k => by cases h; exact k
 | s :: a, b, _, y, ⟨v, l, h1, h2, h3⟩, k => by subst h3; exact ⟨v, l ++ y, h1, aM.app h2 k, rfl⟩
theorem DL.app {c : Ctx} {a b : List SVal} {x y : List Value} (h : DL c a x) (k : DL c b y) : DL c (a ++ b) (x ++ y) := ⟨aM.app h.1 k.1, fun v hv => by
 rcases List.mem_append.1 hv with hv | hv
 ·exact h.2 v hv
 ·exact k.2 v hv⟩
theorem row_of {c : Ctx} {b : Nat} : ∀ {l : List SVal} {cs : List Value} {i : Nat}, DL c l cs → (∀ j v, cs[j]? = some v → c.fz b (i + j) = some v) → bF c b l i
 | [], _, _, _, _ => trivial
 | s :: r, _, i, ⟨⟨v, l, h1, h2, h3⟩, h4⟩, hf => by
  subst h3
  exact ⟨⟨v, hf 0 v rfl, h4 v (List.mem_cons_self ..), h1⟩, row_of ⟨h2, fun x hx => h4 x (List.mem_cons_of_mem _ hx)⟩ fun j x hj => by
   have := hf (j + 1) x hj
   rwa [show i + (j + 1) = i + 1 + j by omega] at this⟩
theorem rows_of {c : Ctx} {b size : Nat} : ∀ {rows : List (List SVal)} {i : Nat}, (∀ (k : Nat) (row : List SVal), rows[k]? = some row → row.length = size ∧ bF c b row (i + k * size)) → bp c b size rows i
 | [], _, _ => trivial
 | row :: r, i, h => by
  have h0 := h 0 row rfl
  rw [Nat.zero_mul, Nat.add_zero] at h0
  refine ⟨h0.1, h0.2, rows_of fun k row' hk => ?_⟩
  have := h (k + 1) row' hk
  rwa [Nat.add_mul, Nat.one_mul, ← Nat.add_assoc, Nat.add_right_comm] at this
theorem maxLen_eq : maxLen = 9223372036854775807 := by decide
section
variable {H : Type} (enc : TypeId × Value → H) (w : World) (base : Nat) (spare : Nat → Bool) (held : Bool) (c : Ctx)
def Op {α : Type} (f : α → List SVal) (Q : α → Prop) (t : TypeId) (fuel : Nat) : Prop := ∀ cs x, DataW.trod enc Tryz.prog w base spare held fuel t cs = some x → ∃ a, DL c (f a) cs ∧ Q a
theorem fF (hc : c.fz = fzW w) {α : Type} {f : α → List SVal} {Q : α → Prop} {t e : TypeId} {sz : Nat} (ht : Tryz.prog.underlying t = some (.slice e)) (hsz : Tryz.prog.cellsOf e = sz) (hpos : 0 < sz) {fuel : Nat} (hel : ∀ n, n < fuel → Op enc w base spare held c f Q e n) :
  Op enc w base spare held c (fun l : List α => [.lst false (l.map f)]) (fun l => l.length ≤ 9223372036854775807 ∧ ∀ a ∈ l, Q a) t fuel := by
 intro cs x h
 rcases DataW.trod_slice ht h with ⟨rfl, rfl⟩ | ⟨a, len, cap, elems, rest, n, rfl, rfl, rfl, h1, hle, hmax, hlen, hat, _, _⟩
 ·exact ⟨[], DL.one (.inl ⟨rfl, none, 0, rfl, fun h => by cases h⟩) rfl, by simp, fun a ha => by cases ha⟩
 ·rw [hsz] at hat
  rw [maxLen_eq] at hmax
  have key : ∀ k, k ≤ len → ∃ l : List α, l.length = k ∧ ∀ i q, l[i]? = some q → Q q ∧ ∃ cs', w.cells? base (a.add (i * sz)) sz = some cs' ∧ DL c (f q) cs' := by
   intro k
   induction k with
   | zero => exact fun _ => ⟨[], rfl, fun i q hq => by simp at hq⟩
   | succ k ih =>
    intro hk
    obtain ⟨l, l1, l2⟩ := ih (by omega)
    have hy := hat k (by omega)
    rw [List.getElem?_eq_getElem (by omega)] at hy
    obtain ⟨cs', g1, g2⟩ := Option.bind_eq_some_iff.1 hy
    obtain ⟨q, q1, q2⟩ := hel n (by omega) cs' _ g2
    refine ⟨l ++ [q], by simp [l1], fun i z hz => ?_⟩
    by_cases hi : i < l.length
    ·rw [List.getElem?_append_left hi] at hz
     exact l2 i z hz
    ·rw [List.getElem?_append_right (by omega)] at hz
     have hi0 : i - l.length = 0 := by
      have := (List.getElem?_eq_some_iff.1 hz).1
      simp at this
      omega
     rw [hi0] at hz
     simp at hz
     subst hz
     have : i = k := by omega
     subst this
     exact ⟨q2, cs', g1, q1⟩
  obtain ⟨l, l1, l2⟩ := key len (Nat.le_refl _)
  refine ⟨l, DL.one ?_ rfl, by omega, fun q hq => ?_⟩
  ·by_cases h0 : len = 0
   ·subst h0
    have : l = [] := List.eq_nil_of_length_eq_zero l1
    subst this
    exact .inl ⟨rfl, some a, cap, rfl, fun h => by cases h⟩
   ·have cellAt : ∀ i q, l[i]? = some q → ∃ cs', DL c (f q) cs' ∧ cs'.length = sz ∧ ∀ j v, cs'[j]? = some v → w.cell? ((a.add (i * sz)).add j) = some v := fun i q hq => by
     obtain ⟨_, cs', g1, g2⟩ := l2 i q hq
     unfold World.cells? at g1
     split at g1
     ·have hl := mapM_some_length g1
      rw [List.length_range] at hl
      refine ⟨cs', g2, hl, fun j v hj => ?_⟩
      have hjs : j < sz := by have := (List.getElem?_eq_some_iff.1 hj).1; omega
      rw [mapM_some_get g1 j j (by simp [hjs]), hj]
     ·cases g1
    obtain ⟨q0, hq0⟩ : ∃ q, l[0]? = some q := ⟨_, List.getElem?_eq_getElem (by omega)⟩
    obtain ⟨cs0, _, k2, k3⟩ := cellAt 0 q0 hq0
    obtain ⟨v0, hv0⟩ : ∃ v, cs0[0]? = some v := ⟨_, List.getElem?_eq_getElem (by omega)⟩
    have ha0 := (yJ (k3 0 v0 hv0)).1
    have ha : a = ⟨a.block, a.off, none⟩ := by
     rw [Nat.zero_mul] at ha0
     exact ha0
    refine .inr ⟨a.block, a.off, sz, cap, by rw [List.length_map, l1, ← ha], by rw [List.length_map]; omega, fun h => (by cases h), rows_of fun k row hk => ?_⟩
    rw [List.getElem?_map] at hk
    obtain ⟨q, hq, rfl⟩ := Option.map_eq_some_iff.1 hk
    obtain ⟨cs', g1, g2, g3⟩ := cellAt k q hq
    refine ⟨?_, row_of g1 fun j v hj => ?_⟩
    ·rw [← g2]
     exact (aM.length g1.1).symm
    ·have := (yJ (g3 j v hj)).2
     rw [ha, add_eq, add_eq] at this
     rw [hc]
     exact this
  ·obtain ⟨i, hi⟩ := List.mem_iff_getElem?.1 hq
   exact (l2 i q hi).1
end
end Go.Proofs.YtmjddpeookapaaaGreatDoor
