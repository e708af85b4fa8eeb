/- For ConcreteHidden: the collector, with hidden members and without. -/
import Derived.Test.YtmjddpeookapaaaGreatDoorNe
import Derived.Test.YtmjddpeookapaaaGreatDoorMm
set_option linter.unusedVariables false
set_option linter.unusedSimpArgs false
set_option linter.unusedSectionVars false
namespace Go.Proofs.YtmjddpeookapaaaGreatDoor
open Sv
section
variable {α β : Type}
theorem dA {c : Prop} [Decidable c] (h : c) (f : Unit → Option β) : (grd c).bind f = f () := by
 unfold grd
 rw [if_pos h]
 rfl
theorem gA {l : List α} {i : Nat} {x : α} (h : l[i]? = some x) (f : α → Option β) : (atI l (i : Int)).bind f = f x := by
 unfold atI
 rw [if_pos (by omega), show ((i : Int)).toNat = i by omega, h]
 rfl
theorem iN {l : List α} (h : l.length < 1000000000) (x : α) (f : List α → Option β) : (push l x).bind f = f (l ++ [x]) := by
 unfold push
 rw [if_pos h]
 rfl
end
def zH (N : Nat) (f : List Stp → List bZ → Option (Dat × List bZ)) (dd : Dat) : Prop := ∀ m, N < m → ∃ b, brR m dd = some b ∧ (∀ k, N < k → sdR k b b = some true) ∧ ∀ (path : List Stp) (ps : List bZ), path.length + N ≤ 1000 → f path ps = some (b, ps)
def Out (C N : Nat) (ps : List bZ) (f : List Stp → List bZ → Option (Dat × List bZ)) (q : Dat × List bZ) : Prop := ∃ ext, q.2 = ps ++ ext ∧ ext.length ≤ C ∧ (∀ e ∈ ext, e.jO ≠ 0) ∧ (ext = [] → zH N f q.1)
theorem Out.congr {C N : Nat} {ps : List bZ} {f g : List Stp → List bZ → Option (Dat × List bZ)} {q : Dat × List bZ} (h : Out C N ps f q) (e : ∀ path ps, g path ps = f path ps) : Out C N ps g q := by
 have : g = f := funext fun path => funext fun ps => e path ps
 rw [this]
 exact h
def VH (P : Va → Prop) (N C : Nat) (rt rf : fS) : Prop := ∀ x path ps, P x → path.length + N ≤ 1000 → ps.length + C ≤ 1000000 → Tot (rt x path ps) (Out C N ps (rf x))
theorem zB {C N : Nat} (hC : 1 ≤ C) {ps : List bZ} (h : ps.length < 1000000000) {path : List Stp} {e : Int} (he : e ≠ 0) {f : List Stp → List bZ → Option (Dat × List bZ)} {dd : Dat} : Tot ((px ps path e).bind fun ps => some (dd, ps)) (Out C N ps f) := by
 unfold px
 rw [Option.bind_assoc]
 refine aZ h ⟨_, rfl, [⟨path, e⟩], rfl, hC, fun x hx => ?_, fun h => by cases h⟩
 rw [List.mem_singleton.1 hx]
 exact he
theorem xm {rec : Dat → Dat → Option Bool} {a : dH Dat} (h : ∀ x ∈ a.members, rec x.data x.data = some true) (hl : a.members.length ≤ 1000) : ∀ {f i : Nat}, i ≤ a.members.length → a.members.length < f + i → sdM rec a a f i = some true
 | 0, i, h1, h2 => by omega
 | f + 1, i, h1, h2 => by
  unfold sdM
  rw [dA (by omega)]
  by_cases hi : i < a.members.length
  ·obtain ⟨x, hx⟩ : ∃ x, a.members[i]? = some x := ⟨_, List.getElem?_eq_getElem hi⟩
   rw [if_pos (by omega), gA hx, gA hx, if_pos rfl, gA hx, gA hx, h x (List.mem_of_getElem? hx), Option.bind_some, if_pos rfl]
   exact xm h hl (f := f) (i := i + 1) (by omega) (by omega)
  ·rw [if_neg (by omega)]
theorem xn {rec : Dat → Dat → Option Bool} {a : dH Dat} (h : ∀ x ∈ a.items, rec x x = some true) (hl : a.items.length ≤ 1000) (h' : ∀ x ∈ a.members, rec x.data x.data = some true) (hl' : a.members.length ≤ 1000) : ∀ {f i : Nat}, i ≤ a.items.length → a.items.length < f + i → sdI rec a a f i = some true
 | 0, i, h1, h2 => by omega
 | f + 1, i, h1, h2 => by
  unfold sdI
  rw [dA (by omega)]
  by_cases hi : i < a.items.length
  ·obtain ⟨x, hx⟩ : ∃ x, a.items[i]? = some x := ⟨_, List.getElem?_eq_getElem hi⟩
   rw [if_pos (by omega), gA hx, gA hx, h x (List.mem_of_getElem? hx), Option.bind_some, if_pos rfl]
   exact xn h hl h' hl' (f := f) (i := i + 1) (by omega) (by omega)
  ·rw [if_neg (by omega)]
   exact xm h' hl' (f := a.members.length + 1) (i := 0) (by omega) (by omega)
theorem qz {n : Nat} {a : dH Dat} (h : ∀ x ∈ a.items, sdR n x x = some true) (hl : a.items.length ≤ 1000) (h' : ∀ x ∈ a.members, sdR n x.data x.data = some true) (hl' : a.members.length ≤ 1000) : sdR (n + 1) (.mk a) (.mk a) = some true := by
 show sdC (sdR n) a a = some true
 unfold sdC
 rw [if_pos rfl, if_pos rfl, if_pos rfl, dA (by omega), dA (by omega), if_pos rfl, dA (by omega), dA (by omega), if_pos rfl]
 exact xn h hl h' hl' (f := a.items.length + 1) (i := 0) (by omega) (by omega)
def AllB (N : Nat) (rf : fS) : List Va → List Dat → Prop
 | [], [] => True
 | x :: r, d :: ds => zH N (rf x) d ∧ AllB N rf r ds
 | _, _ => False
theorem wR {P : Va → Prop} {N C : Nat} {rt rf : fS} (h : VH P N C rt rf) {path : List Stp} (hp : path.length + N + 1 ≤ 1000) : ∀ {r : List Va} {i : Int} {ps : List bZ} {out : List Dat}, (∀ x ∈ r, P x) → ps.length + C * r.length ≤ 1000000 → out.length + r.length ≤ 1000 →
  Tot (nr rt path r i ps out) fun q => ∃ ds ext, q.1 = .mk ⟨5, 0, [], out ++ ds, []⟩ ∧ q.2 = ps ++ ext ∧ ext.length ≤ C * r.length ∧ (∀ e ∈ ext, e.jO ≠ 0) ∧ (ext = [] → AllB N rf r ds)
 | [], i, ps, out, _, _, _ => ah ⟨[], [], by simp, by simp, by simp, fun e h => (by cases h), fun _ => trivial⟩
 | x :: r, i, ps, out, hP, hn, ho => by
  rw [List.length_cons] at hn ho
  rw [Nat.mul_add, Nat.mul_one] at hn
  unfold nr
  refine ar (by omega) (aZ (by omega) (an (h x _ ps (hP x (List.mem_cons_self ..)) (by simp; omega) (by omega)) fun q ⟨e1, q1, q2, q3, q4⟩ => aZ (by omega) ?_))
  refine (wR h hp (fun x hx => hP x (List.mem_cons_of_mem _ hx)) (by rw [q1]; simp; omega) (by simp; omega)).mono ?_
  rintro s ⟨ds, e2, s1, s2, s3, s4, s5⟩
  refine ⟨q.1 :: ds, e1 ++ e2, by rw [s1]; simp, by rw [s2, q1]; simp, by rw [List.length_append, List.length_cons, Nat.mul_add, Nat.mul_one]; omega, fun e he => ?_, fun he => ?_⟩
  ·rcases List.mem_append.1 he with he | he
   ·exact q3 e he
   ·exact s4 e he
  ·have he' := List.append_eq_nil_iff.1 he
   exact ⟨q4 he'.1, s5 he'.2⟩
theorem AllB.get {N m : Nat} {rf : fS} (hm : N < m) : ∀ {r : List Va} {ds : List Dat}, AllB N rf r ds → ∃ zs : List Dat, zs.length = ds.length ∧ ds.length = r.length ∧
  (∀ (d : dH Dat) (pre out : List Dat) (f : Nat), d.items = pre ++ ds → ds.length < f → d.items.length ≤ 1000 → out.length + ds.length ≤ 1000 → brI (brR m) d f pre.length out = brM (brR m) d (out ++ zs) (d.members.length + 1) 0 []) ∧
  (∀ k, N < k → ∀ z ∈ zs, sdR k z z = some true) ∧
  ∀ (path : List Stp) (i : Int) (ps : List bZ) (out : List Dat), path.length + N + 1 ≤ 1000 → out.length + r.length ≤ 1000 → nr rf path r i ps out = some (.mk ⟨5, 0, [], out ++ zs, []⟩, ps)
 | [], [], _ => ⟨[], rfl, rfl, fun d pre out f h1 h2 h3 h4 => by
   obtain ⟨f, rfl⟩ : ∃ g, f = g + 1 := ⟨f - 1, by simp at h2; omega⟩
   rw [List.append_nil] at h1
   unfold brI
   rw [dA (by omega), if_neg (by rw [h1]; omega), List.append_nil], fun k _ z hz => (by cases hz), fun path i ps out _ _ => by
   unfold nr
   rw [List.append_nil]⟩
 | [], _ :: _, h => h.elim
 | _ :: _, [], h => h.elim
 | x :: r, d :: ds, h => by
  obtain ⟨zs, z0, z1, z2, z3, z4⟩ := AllB.get hm h.2
  obtain ⟨b, b1, b2, b3⟩ := h.1 m hm
  refine ⟨b :: zs, by simp [z0], by simp [z1], fun c pre out f h1 h2 h3 h4 => ?_, fun k hk z hz => ?_, fun path i ps out h1 h2 => ?_⟩
  ·rw [List.length_cons] at h2 h4
   obtain ⟨f, rfl⟩ : ∃ g, f = g + 1 := ⟨f - 1, by omega⟩
   have e1 : ((pre.length : Int) + 1) = (((pre ++ [d]).length : Nat) : Int) := by simp
   have e2 : c.items[pre.length]? = some d := by rw [h1]; simp
   have e3 : pre.length < c.items.length := by rw [h1]; simp
   unfold brI
   rw [dA (by omega), if_pos (by omega), gA e2, b1, Option.bind_some, iN (by omega), e1, z2 c (pre ++ [d]) (out ++ [b]) f (by rw [h1]; simp) (by omega) h3 (by simp; omega)]
   simp
  ·rcases List.mem_cons.1 hz with rfl | hz
   ·exact b2 k hk
   ·exact z3 k hk z hz
  ·rw [List.length_cons] at h2
   unfold nr
   rw [dA (by omega), iN (by omega), b3 _ ps (by simp; omega), Option.bind_some, iN (by omega), z4 path (i + 1) ps (out ++ [b]) h1 (by simp; omega)]
   simp
theorem visLi_tot {d N C : Nat} {rt rf : fS} (h : VH (SmP d) N C rt rf) (hC : 1 ≤ C) {c : aT Va} (hc : SmL (SmP d) c) {path : List Stp} {ps : List bZ} (hp : path.length + N + 1 ≤ 1000) (hn : ps.length + 4 * C ≤ 1000000) : Tot (tC rt c path ps) (Out (4 * C) (N + 1) ps (tC rf c)) := by
 have h1 := hc.il
 have h2 := hc.rl
 unfold tC
 refine ar (by omega) (aq (fun _ => zB (by omega) (by omega) (by omega)) fun h0 => ar (by omega) ?_)
 have h3 : C * c.items.length ≤ C * 3 := Nat.mul_le_mul_left _ h1
 refine (wR h hp hc.i (by omega) (by simp; omega)).mono ?_
 rintro q ⟨ds, ext, q1, q2, q3, q4, q5⟩
 refine ⟨ext, q2, by omega, q4, fun he m hm => ?_⟩
 obtain ⟨m, rfl⟩ : ∃ g, m = g + 1 := ⟨m - 1, by omega⟩
 obtain ⟨zs, z0, z1, z2, z3, z4⟩ := (q5 he).get (m := m) (by omega)
 rw [q1]
 refine ⟨.mk ⟨5, 0, [], zs, []⟩, ?_, fun k hk => ?_, fun path ps hp => ?_⟩
 ·show brI (brR m) ⟨5, 0, [], [] ++ ds, []⟩ (([] ++ ds).length + 1) ((([] : List Dat).length : Nat) : Int) [] = _
  rw [z2 ⟨5, 0, [], [] ++ ds, []⟩ [] [] _ rfl (by simp) (by simp; omega) (by simp; omega)]
  rfl
 ·obtain ⟨k, rfl⟩ : ∃ g, k = g + 1 := ⟨k - 1, by omega⟩
  exact qz (z3 k (by omega)) (by show zs.length ≤ 1000; omega) (fun x hx => by cases hx) (by show (0 : Nat) ≤ 1000; omega)
 ·show (aN c.rest).bind _ = _
  rw [dA (by omega), if_neg h0, dA (by omega), z4 path 0 ps [] (by omega) (by simp; omega)]
  rfl
theorem jf {α β : Type} {l : List α} {x : α} (h : l[0]? = some x) (f : α → Option β) : (atI l 0).bind f = f x := gA (i := 0) h f
theorem nf : ¬ (false = true) := by decide
theorem hid_eq (w : List UInt8) : ∃ h : Bool, hidR w = some h ∧ mI false w = some h := by
 unfold hidR mI
 by_cases h0 : w = []
 ·exact ⟨false, if_pos h0, by rw [if_neg nf, if_pos h0]⟩
 ·obtain ⟨b, hb⟩ : ∃ b, w[0]? = some b := by
   cases w with
   | nil => exact absurd rfl h0
   | cons b r => exact ⟨b, rfl⟩
  by_cases h1 : (b.toNat : Int) = 95
  ·exact ⟨true, by rw [if_neg h0, jf hb, if_pos h1], by rw [if_neg nf, if_neg h0, jf hb, if_pos h1]⟩
  ·by_cases h2 : (b.toNat : Int) = 35
   ·exact ⟨true, by rw [if_neg h0, jf hb, if_neg h1, jf hb, decide_eq_true h2], by rw [if_neg nf, if_neg h0, jf hb, if_neg h1, if_pos h2]⟩
   ·exact ⟨false, by rw [if_neg h0, jf hb, if_neg h1, jf hb, decide_eq_false h2], by rw [if_neg nf, if_neg h0, jf hb, if_neg h1, if_neg h2]⟩
theorem leftM_true (w : List UInt8) : mI true w = some false := rfl
def AllM (N : Nat) (rf : fS) : List (Fld Va) → List (Mem Dat) → Prop
 | [], [] => True
 | f :: r, m :: ms => (m.label = f.label ∧ f.fe ≠ 2 ∧ zH N (rf f.val) m.data) ∧ AllM N rf r ms
 | _, _ => False
section
variable {P : Va → Prop} {N C : Nat} {rt rf : fS}
def Fd (C N : Nat) (rf : fS) (f : Fld Va) (ps : List bZ) (out : List (Mem Dat)) (s : List bZ × List (Mem Dat)) : Prop := ∃ ext, s.1 = ps ++ ext ∧ ext.length ≤ C ∧ (∀ e ∈ ext, e.jO ≠ 0) ∧ s.2.length ≤ out.length + 1 ∧ (ext = [] → ∃ dd, s.2 = out ++ [⟨f.label, dd⟩] ∧ f.fe ≠ 2 ∧ zH N (rf f.val) dd)
theorem wE (hC : 1 ≤ C) {f : Fld Va} {ps : List bZ} {out o : List (Mem Dat)} (hn : ps.length < 1000000000) (ho : o.length ≤ out.length + 1) {path : List Stp} {e : Int} (he : e ≠ 0) : Tot ((px ps path e).bind fun ps => some (ps, o)) (Fd C N rf f ps out) := by
 unfold px
 rw [Option.bind_assoc]
 refine aZ hn ⟨_, rfl, [⟨path, e⟩], rfl, hC, fun x hx => ?_, ho, fun h => by cases h⟩
 rw [List.mem_singleton.1 hx]
 exact he
theorem vsB_tot (h : VH P N C rt rf) (hC : 1 ≤ C) {path p : List Stp} (hp' : p.length + N ≤ 1000) {f : Fld Va} (hf : P f.val) {ps : List bZ} {out : List (Mem Dat)} (hn : ps.length + C ≤ 1000000) (ho : out.length + 1 ≤ 1000) (hN : N ≤ 1000) : Tot (vsB true rt path p f ps out) (Fd C N rf f ps out) := by
 have hD : f.fe ≠ 2 → Tot ((rt f.val p ps).bind fun q => (push out ⟨f.label, q.1⟩).bind fun out => some (q.2, out)) (Fd C N rf f ps out) := fun h2 => by
  refine an (h f.val p ps hf hp' hn) fun q ⟨e1, q1, q2, q3, q4⟩ => aZ (by omega) (ah ⟨e1, q1, q2, q3, by simp, fun he => ⟨q.1, rfl, h2, q4 he⟩⟩)
 unfold vsB
 rw [leftM_true, Option.bind_some, if_neg nf]
 refine aq (fun h0 => aq (fun h1 => ?_) fun _ => aq (fun _ => wE hC (by omega) (by omega) (by omega)) fun h2 => hD h2) fun _ => aq (fun _ => wE hC (by omega) (by omega) (by omega)) fun h2 => hD h2
 refine an (h f.val [] [] hf (by simpa using hN) (by simp; omega)) fun q ⟨e1, q1, q2, q3, q4⟩ => aZ (by omega) ?_
 rw [List.nil_append] at q1
 rw [← q1] at q2 q3 q4
 refine ar (by omega) (aq (fun h3 => aP (by omega) (by omega) fun e _ he => wE hC (by omega) (by simp) (q3 e he)) fun h3 => ?_)
 have h4 : q.2 = [] := List.eq_nil_of_length_eq_zero (by omega)
 exact ah ⟨[], by simp, by simp, fun e h => (by cases h), by simp, fun _ => ⟨q.1, by rw [h0], by omega, q4 h4⟩⟩
theorem vsL_tot (h : VH P N C rt rf) (hC : 1 ≤ C) {path : List Stp} (hp : path.length + N + 1 ≤ 1000) : ∀ {r : List (Fld Va)} {ps : List bZ} {out : List (Mem Dat)}, (∀ f ∈ r, P f.val) → ps.length + C * r.length ≤ 1000000 → out.length + r.length ≤ 1000 →
  Tot (vsL true rt path r ps out) fun q => ∃ ext, q.2 = ps ++ ext ∧ ext.length ≤ C * r.length ∧ (∀ e ∈ ext, e.jO ≠ 0) ∧ (ext = [] → ∃ ms, q.1 = .mk ⟨6, 0, [], [], out ++ ms⟩ ∧ AllM N rf r ms)
 | [], ps, out, _, _, _ => ah ⟨[], by simp, by simp, fun e h => (by cases h), fun _ => ⟨[], by simp, trivial⟩⟩
 | f :: r, ps, out, hP, hn, ho => by
  rw [List.length_cons] at hn ho
  rw [Nat.mul_add, Nat.mul_one] at hn
  have hf := hP f (List.mem_cons_self ..)
  have step : ∀ s : List bZ × List (Mem Dat), Fd C N rf f ps out s → Tot (vsL true rt path r s.1 s.2) fun q => ∃ ext, q.2 = ps ++ ext ∧ ext.length ≤ C * (r.length + 1) ∧ (∀ e ∈ ext, e.jO ≠ 0) ∧ (ext = [] → ∃ ms, q.1 = .mk ⟨6, 0, [], [], out ++ ms⟩ ∧ AllM N rf (f :: r) ms) := by
   rintro s ⟨e1, q1, q2, q3, q4, q5⟩
   refine (vsL_tot h hC hp (fun x hx => hP x (List.mem_cons_of_mem _ hx)) (by rw [q1]; simp; omega) (by omega)).mono ?_
   rintro q ⟨e2, s1, s2, s3, s4⟩
   refine ⟨e1 ++ e2, by rw [s1, q1]; simp, by rw [List.length_append, Nat.mul_add, Nat.mul_one]; omega, fun e he => ?_, fun he => ?_⟩
   ·rcases List.mem_append.1 he with he | he
    ·exact q3 e he
    ·exact s3 e he
   ·have he' := List.append_eq_nil_iff.1 he
    obtain ⟨dd, d1, d2, d3⟩ := q5 he'.1
    obtain ⟨ms, m1, m2⟩ := s4 he'.2
    exact ⟨⟨f.label, dd⟩ :: ms, by rw [m1, d1]; simp, ⟨rfl, d2, d3⟩, m2⟩
  unfold vsL
  rw [List.length_cons]
  exact ar (by omega) (aZ (by omega) (aq (fun _ => an (vsB_tot h hC (by omega) hf (by omega) (by omega) (by omega)) step) fun _ => an (vsB_tot h hC (by simp; omega) hf (by omega) (by omega) (by omega)) step))
theorem vsB_false {m : Nat} (hm : N < m) {f : Fld Va} {dd b : Dat} (hpr : f.fe ≠ 2) (hb : ∀ (path : List Stp) (ps : List bZ), path.length + N ≤ 1000 → rf f.val path ps = some (b, ps)) {h : Bool} (hh : mI false f.label = some h) {path p : List Stp} (hp : p.length + N ≤ 1000) (hN : N ≤ 1000) {ps : List bZ} {out : List (Mem Dat)} (ho : out.length < 1000) : vsB false rf path p f ps out = some (ps, if h then out else out ++ [⟨f.label, b⟩]) := by
 unfold vsB
 rw [hh, Option.bind_some]
 cases h with
 | true => rw [if_pos rfl, if_pos rfl]
 | false =>
  rw [if_neg nf, if_neg nf]
  have hD : ((rf f.val p ps).bind fun q => (push out ⟨f.label, q.1⟩).bind fun out => some (q.2, out)) = some (ps, out ++ [⟨f.label, b⟩]) := by
   rw [hb p ps hp, Option.bind_some, iN (by omega)]
  by_cases h0 : f.label = []
  ·rw [if_pos h0]
   by_cases h1 : f.fe = 1
   ·rw [if_pos h1, hb [] [] (by simpa using hN), Option.bind_some, iN (by omega), dA (by simp), if_neg (by simp), h0]
   ·rw [if_neg h1, if_neg hpr, hD]
  ·rw [if_neg h0, if_neg hpr, hD]
theorem AllM.get {m : Nat} (hm : N < m) : ∀ {r : List (Fld Va)} {ms : List (Mem Dat)}, AllM N rf r ms → ∃ bs : List (Mem Dat), bs.length ≤ ms.length ∧ ms.length = r.length ∧
  (∀ (d : dH Dat) (items : List Dat) (pre out : List (Mem Dat)) (f : Nat), d.members = pre ++ ms → ms.length < f → d.members.length ≤ 1000 → out.length + ms.length ≤ 1000 → brM (brR m) d items f pre.length out = some (.mk ⟨d.kind, d.num, d.str, items, out ++ bs⟩)) ∧
  (∀ k, N < k → ∀ z ∈ bs, sdR k z.data z.data = some true) ∧
  ∀ (path : List Stp) (ps : List bZ) (out : List (Mem Dat)), path.length + N + 1 ≤ 1000 → out.length + r.length ≤ 1000 → vsL false rf path r ps out = some (.mk ⟨6, 0, [], [], out ++ bs⟩, ps)
 | [], [], _ => ⟨[], Nat.le_refl _, rfl, fun d items pre out f h1 h2 h3 h4 => by
   obtain ⟨f, rfl⟩ : ∃ g, f = g + 1 := ⟨f - 1, by simp at h2; omega⟩
   rw [List.append_nil] at h1
   unfold brM
   rw [dA (by omega), if_neg (by rw [h1]; omega), List.append_nil], fun k _ z hz => (by cases hz), fun path ps out _ _ => by
   unfold vsL
   rw [List.append_nil]⟩
 | [], _ :: _, h => h.elim
 | _ :: _, [], h => h.elim
 | x :: r, mm :: ms, h => by
  obtain ⟨bs, z0, z1, z2, z3, z4⟩ := AllM.get hm h.2
  obtain ⟨b, b1, b2, b3⟩ := h.1.2.2 m hm
  obtain ⟨hd, d1, d2⟩ := hid_eq x.label
  refine ⟨(if hd then bs else ⟨x.label, b⟩ :: bs), ?_, by simp [z1], fun c items pre out f h1 h2 h3 h4 => ?_, fun k hk z hz => ?_, fun path ps out h1 h2 => ?_⟩
  ·cases hd
   ·simpa using z0
   ·simp; omega
  ·rw [List.length_cons] at h2 h4
   obtain ⟨f, rfl⟩ : ∃ g, f = g + 1 := ⟨f - 1, by omega⟩
   have e1 : ((pre.length : Int) + 1) = (((pre ++ [mm]).length : Nat) : Int) := by simp
   have e2 : c.members[pre.length]? = some mm := by rw [h1]; simp
   have e3 : pre.length < c.members.length := by rw [h1]; simp
   unfold brM
   rw [dA (by omega), if_pos (by omega), gA e2, h.1.1, d1, Option.bind_some, e1]
   cases hd with
   | true =>
    rw [if_pos rfl, z2 c items (pre ++ [mm]) out f (by rw [h1]; simp) (by omega) h3 (by omega), if_pos rfl]
   | false =>
    rw [if_neg nf, gA e2, gA e2, b1, Option.bind_some, iN (by omega), h.1.1, z2 c items (pre ++ [mm]) _ f (by rw [h1]; simp) (by omega) h3 (by simp; omega), if_neg nf]
    simp
  ·cases hd with
   | true => exact z3 k hk z (by simpa using hz)
   | false =>
    rcases List.mem_cons.1 (show z ∈ ⟨x.label, b⟩ :: bs from hz) with rfl | hz
    ·exact b2 k hk
    ·exact z3 k hk z hz
  ·rw [List.length_cons] at h2
   have hv : ∀ p : List Stp, p.length + N ≤ 1000 → ((vsB false rf path p x ps out).bind fun q => vsL false rf path r q.1 q.2) = some (.mk ⟨6, 0, [], [], out ++ (if hd then bs else ⟨x.label, b⟩ :: bs)⟩, ps) := fun p hp => by
    rw [vsB_false (dd := mm.data) hm h.1.2.1 b3 d2 hp (by omega) (by omega), Option.bind_some]
    cases hd with
    | true => exact z4 path ps out h1 (by omega)
    | false =>
     refine (z4 path ps (out ++ [⟨x.label, b⟩]) h1 (by simp; omega)).trans ?_
     simp
   unfold vsL
   rw [dA (by omega), iN (by omega), hv path (by omega), hv _ (by simp; omega)]
   split <;> rfl
end
theorem visSt_tot {d N C : Nat} {rt rf : fS} (h : VH (SmP d) N C rt rf) (hC : 1 ≤ C) {c : aI Va} (hc : SmS (SmP d) c) {path : List Stp} {ps : List bZ} (hp : path.length + N + 1 ≤ 1000) (hn : ps.length + 4 * C ≤ 1000000) : Tot (tA true rt c path ps) (Out (4 * C) (N + 1) ps (tA false rf c)) := by
 have h1 := hc.fl
 unfold tA
 have h3 : C * c.fields.length ≤ C * 4 := Nat.mul_le_mul_left _ h1
 refine ar (by omega) ((vsL_tot h hC hp hc.f (by omega) (by simp; omega)).mono ?_)
 rintro q ⟨ext, q2, q3, q4, q5⟩
 refine ⟨ext, q2, by omega, q4, fun he m hm => ?_⟩
 obtain ⟨m, rfl⟩ : ∃ g, m = g + 1 := ⟨m - 1, by omega⟩
 obtain ⟨ms, m1, m2⟩ := q5 he
 obtain ⟨bs, z0, z1, z2, z3, z4⟩ := m2.get (m := m) (by omega)
 rw [m1]
 refine ⟨.mk ⟨6, 0, [], [], bs⟩, ?_, fun k hk => ?_, fun path ps hp => ?_⟩
 ·show brM (brR m) ⟨6, 0, [], [], [] ++ ms⟩ [] (([] ++ ms).length + 1) ((([] : List (Mem Dat)).length : Nat) : Int) [] = _
  rw [z2 ⟨6, 0, [], [], [] ++ ms⟩ [] [] [] _ rfl (by simp) (by simp; omega) (by simp; omega)]
  rfl
 ·obtain ⟨k, rfl⟩ : ∃ g, k = g + 1 := ⟨k - 1, by omega⟩
  exact qz (fun x hx => by cases hx) (by show (0 : Nat) ≤ 1000; omega) (z3 k (by omega)) (by show bs.length ≤ 1000; omega)
 ·show (aN c.fields).bind _ = _
  rw [dA (by omega), z4 path ps [] (by omega) (by simp; omega)]
  rfl
theorem leaf_bare {n N : Nat} {dd : Dat} (h : LD n dd) : zH (N + 1) (fun _ ps => some (dd, ps)) dd := by
 intro m hm
 obtain ⟨m, rfl⟩ : ∃ g, m = g + 1 := ⟨m - 1, by omega⟩
 refine ⟨dd, ?_, fun k hk => ?_, fun path ps _ => rfl⟩
 ·rw [h.eq]
  rfl
 ·obtain ⟨k, rfl⟩ : ∃ g, k = g + 1 := ⟨k - 1, by omega⟩
  rw [h.eq]
  exact qz (fun x hx => by cases hx) (by show (0 : Nat) ≤ 1000; omega) (fun x hx => by cases hx) (by show (0 : Nat) ≤ 1000; omega)
theorem visR1_eq {hid : Bool} {rec : fS} {r : Vlu Va} {p : Dat × Bool} {e b : Bool} {path : List Stp} {ps : List bZ} (h1 : kx r.sc = some p) (h2 : jQ r.sc = some e) (h3 : jd r = some b) (h4 : r.lists.length ≤ 3) (h5 : r.structs.length ≤ 3) :
  gk hid rec r path ps = if b then gE ps path 12 else if r.any then gE ps path 14 else if (r.lists.length : Int) + r.structs.length > 1 then gE ps path 14 else if (r.lists.length : Int) + r.structs.length > 0 then if e then qb hid rec r p path ps else gE ps path 14 else qb hid rec r p path ps := by
 unfold gk
 rw [h1, Option.bind_some, h2, Option.bind_some, dA (by omega), dA (by omega), h3, Option.bind_some]
theorem visO_out {C N : Nat} (hC : 1 ≤ C) {ps : List bZ} (h : ps.length < 1000000000) {path : List Stp} {e : Int} (he : e ≠ 0) {f : List Stp → List bZ → Option (Dat × List bZ)} : Tot (gE ps path e) (Out C N ps f) := by
 unfold gE
 exact zB hC h he
theorem tB {d N C : Nat} {rt rf : fS} (h : VH (SmP d) N C rt rf) (hC : 1 ≤ C) {r : Vlu Va} (hr : SmV d r) {path : List Stp} {ps : List bZ} (hp : path.length + N + 1 ≤ 1000) (hn : ps.length + 4 * C ≤ 1000000) : Tot (gk true rt r path ps) (Out (4 * C) (N + 1) ps (gk false rf r)) := by
 have hc := hr.c
 have hl := hc.ll
 have hs := hc.sl
 obtain ⟨p, h1, hp1⟩ := xc (k := 5) (n := 8) (by omega) (by omega) hc.sc
 obtain ⟨e, h2, _⟩ := l7 (k := 5) (n := 8) (by omega) (by omega) hc.sc
 obtain ⟨b, h3, _⟩ := nY hc
 have key : ∀ (hid : Bool) (rec : fS) (path : List Stp) (ps : List bZ), gk hid rec r path ps = _ := fun hid rec path ps => visR1_eq h1 h2 h3 hl hs
 have bad : ∀ e : Int, e ≠ 0 → Tot (gE ps path e) (Out (4 * C) (N + 1) ps (gk false rf r)) := fun e he => visO_out (by omega) (by omega) he
 have fin : (∀ (hid : Bool) (rec : fS) (path : List Stp) (ps : List bZ), gk hid rec r path ps = qa hid rec r p path ps) → (p.2 = true ∨ r.lists.length + r.structs.length = 1) → Tot (gk true rt r path ps) (Out (4 * C) (N + 1) ps (gk false rf r)) := fun kt ho => by
  rw [kt]
  unfold qa
  by_cases c6 : p.2 = true
  ·rw [if_pos c6]
   refine ah (Out.congr (f := fun _ ps => some (p.1, ps)) ⟨[], by simp, by simp, fun e h => (by cases h), fun _ => leaf_bare hp1⟩ fun path ps => ?_)
   rw [kt]
   unfold qa
   rw [if_pos c6]
  ·rw [if_neg c6]
   have ho := ho.resolve_left c6
   by_cases c7 : (r.lists.length : Int) = 1
   ·obtain ⟨c, hcc⟩ : ∃ c, r.lists[0]? = some c := ⟨_, List.getElem?_eq_getElem (by omega)⟩
    rw [if_pos c7, jf hcc]
    refine (visLi_tot h hC (hc.l c (List.mem_of_getElem? hcc)) hp hn).mono fun q hq => hq.congr fun path ps => ?_
    rw [kt]
    unfold qa
    rw [if_neg c6, if_pos c7, jf hcc]
   ·obtain ⟨c, hcc⟩ : ∃ c, r.structs[0]? = some c := ⟨_, List.getElem?_eq_getElem (by omega)⟩
    rw [if_neg c7, jf hcc]
    refine (visSt_tot h hC (hc.s c (List.mem_of_getElem? hcc)) hp hn).mono fun q hq => hq.congr fun path ps => ?_
    rw [kt]
    unfold qa
    rw [if_neg c6, if_neg c7, jf hcc]
 by_cases c1 : b = true
 ·rw [key, if_pos c1]; exact bad _ (by omega)
 by_cases c2 : r.any = true
 ·rw [key, if_neg c1, if_pos c2]; exact bad _ (by omega)
 by_cases c3 : (r.lists.length : Int) + r.structs.length > 1
 ·rw [key, if_neg c1, if_neg c2, if_pos c3]; exact bad _ (by omega)
 by_cases c4 : (r.lists.length : Int) + r.structs.length > 0
 ·by_cases c5 : e = true
  ·refine fin (fun hid rec path ps => ?_) (.inr (by omega))
   rw [key, if_neg c1, if_neg c2, if_neg c3, if_pos c4, if_pos c5]
   unfold qb
   rw [if_neg (by omega)]
  ·rw [key, if_neg c1, if_neg c2, if_neg c3, if_pos c4, if_neg c5]; exact bad _ (by omega)
 ·by_cases c6 : p.2 = true
  ·refine fin (fun hid rec path ps => ?_) (.inl c6)
   rw [key, if_neg c1, if_neg c2, if_neg c3, if_neg c4]
   unfold qb
   rw [if_pos (by omega), if_pos c6]
  ·rw [key, if_neg c1, if_neg c2, if_neg c3, if_neg c4]
   unfold qb
   rw [if_pos (by omega), if_neg c6]
   exact bad _ (by omega)
def vcB : Nat → Nat
 | 0 => 4
 | d + 1 => 4 * vcB d
theorem vcB_pos : ∀ d, 1 ≤ vcB d
 | 0 => by decide
 | d + 1 => by have := vcB_pos d; unfold vcB; omega
theorem wT : ∀ {n d : Nat}, d < n → VH (SmA d) n (vcB d) (mf true n) (mf false n)
 | 0, d, h => by omega
 | n + 1, d, h => by
  intro x path ps hx hp hn
  obtain ⟨C, hC, h4, hv⟩ : ∃ C, 1 ≤ C ∧ 4 * C = vcB d ∧ VH (SmP d) n C (mf true n) (mf false n) := by
   cases d with
   | zero => exact ⟨1, Nat.le_refl _, rfl, fun x path ps hx => hx.elim⟩
   | succ d => exact ⟨vcB d, vcB_pos d, rfl, wT (by omega)⟩
  obtain ⟨b, h1, _⟩ := nY hx.2.c
  have key : ∀ (hid : Bool) (path : List Stp) (ps : List bZ), mf hid (n + 1) x path ps = if b then gk hid (mf hid n) x.v path ps else gk hid (mf hid n) x.d path ps := fun hid path ps => by
   show (jd x.d).bind _ = _
   rw [h1, Option.bind_some]
  rw [key, ← h4]
  rw [← h4] at hn
  by_cases c1 : b = true
  ·rw [if_pos c1]
   exact (tB hv hC hx.1 (by omega) hn).mono fun q hq => hq.congr fun path ps => by rw [key, if_pos c1]
  ·rw [if_neg c1]
   exact (tB hv hC hx.2 (by omega) hn).mono fun q hq => hq.congr fun path ps => by rw [key, if_neg c1]
structure WtA (n : Nat) (l : List Stt) : Prop where
 len : l.length ≤ n
 row : ∀ s ∈ l, s.aL.length ≤ n
 eb : ∀ s ∈ l, ∀ e ∈ s.aL, EB e
structure WtS (n : Nat) (s : bW) : Prop where
 i : SpI n s.ints
 f : SpI n s.bK
 a : WtA n s.strs
structure WtC (n : Nat) (P : Va → Prop) (v : Vlu Va) : Prop where
 sc : WtS n v.sc
 ll : v.lists.length ≤ n
 sl : v.structs.length ≤ n
 il : ∀ c ∈ v.lists, c.items.length ≤ n
 rl : ∀ c ∈ v.lists, c.rest.length ≤ n
 i : ∀ c ∈ v.lists, ∀ x ∈ c.items, P x
 r : ∀ c ∈ v.lists, ∀ x ∈ c.rest, P x
 fl : ∀ c ∈ v.structs, c.fields.length ≤ n
 kl : ∀ c ∈ v.structs, c.aA.length ≤ n
 lab : ∀ c ∈ v.structs, ∀ f ∈ c.fields, f.label.length ≤ n
 f : ∀ c ∈ v.structs, ∀ f ∈ c.fields, P f.val
 a : ∀ c ∈ v.structs, ∀ k ∈ c.aA, WtA n k.set
 k : ∀ c ∈ v.structs, ∀ k ∈ c.aA, P k.val
def WtV (n : Nat) : Nat → Vlu Va → Prop
 | 0, _ => True
 | d + 1, v => WtC n (fun x => WtV n d x.v ∧ WtV n d x.d) v
def WtX (n d : Nat) (x : Va) : Prop := WtV n d x.v ∧ WtV n d x.d
theorem yn {n : Nat} (hn : n ≤ 9223372036854775807) {l : List Stt} (h : WtA n l) : ∀ {f i : Nat}, i ≤ l.length → l.length < f + i → (∀ j s, j < i → l[j]? = some s → s.aL.length ≤ 12) → Tot (lngL l f i) fun b => b = true → l.length ≤ 8 ∧ ∀ s ∈ l, s.aL.length ≤ 12
 | 0, i, h1, h2, _ => by omega
 | f + 1, i, h1, h2, hp => by
  have hl := h.len
  have e1 : ((i : Int) + 1) = ((i + 1 : Nat) : Int) := by omega
  unfold lngL
  rw [e1]
  refine ar (by omega) (aq (fun hi => aP (by omega) (by omega) fun x hx hm => ?_) fun hi => ah fun hb => ?_)
  ·have := h.row x hm
   refine ar (by omega) (aq (fun _ => ah fun hb => by cases hb) fun h12 => yn hn h (by omega) (by omega) fun j s hj hs => ?_)
   by_cases hji : j = i
   ·subst hji
    rw [show ((j : Int)).toNat = j by omega, hs] at hx
    cases hx
    omega
   ·exact hp j s (by omega) hs
  ·refine ⟨by have := of_decide_eq_true hb; omega, fun s hs => ?_⟩
   obtain ⟨j, hj, rfl⟩ := List.mem_iff_getElem.1 hs
   exact hp j _ (by omega) (List.getElem?_eq_getElem hj)
theorem ym {n : Nat} (hn : n ≤ 9223372036854775807) {l : List Stt} (h : WtA n l) : Tot (lngR l) fun b => b = true → l.length ≤ 8 ∧ ∀ s ∈ l, s.aL.length ≤ 12 := by
 unfold lngR
 exact yn hn h (f := l.length + 1) (i := 0) (by omega) (by omega) fun j s hj => by omega
theorem sclR_tot {n : Nat} (hn : n ≤ 9223372036854775807) {s : bW} (h : WtS n s) : Tot (sclR s) fun b => b = true → SB 5 8 s := by
 have h1 := h.i.1
 have h2 := h.f.1
 unfold sclR
 refine ar (by omega) (aq (fun h3 => ar (by omega) (aq (fun h4 => (ym hn h.a).mono fun b hb e => ?_) fun _ => ah fun h => by cases h)) fun _ => ah fun h => by cases h)
 have h5 := hb e
 exact ⟨⟨by omega, h.i.2⟩, ⟨by omega, h.f.2⟩, ⟨h5.1, fun s hs => by have := h5.2 s hs; omega, h.a.eb⟩⟩
def GV : Nat → Vlu Va → Prop
 | 0, _ => False
 | L + 1, v => SmV L v
theorem GV.smP {L : Nat} {x : Va} (h1 : GV L x.v) (h2 : GV L x.d) : SmP L x := by
 cases L with
 | zero => exact h1.elim
 | succ L => exact ⟨h1, h2⟩
def MeT (n L : Nat) (rec : Vlu Va → Int → Int → Option Int) : Prop := ∀ (v : Vlu Va) (most : Int), WtV n L v → 0 ≤ most → most ≤ 1000 → Tot (rec v L most) fun r => 0 ≤ r ∧ r ≤ most + 1 ∧ (r ≤ most → GV L v)
def MaT (n L : Nat) (rec : List Va → Int → Int → Option Int) : Prop := ∀ (l : List Va) (most : Int), (∀ x ∈ l, WtX n L x) → l.length ≤ 1000 → -1 ≤ most → most ≤ 1000 → Tot (rec l L most) fun r => 0 ≤ r ∧ r ≤ most + 1 ∧ (r ≤ most → ∀ x ∈ l, SmP L x)
theorem vE {n L : Nat} {rec : Vlu Va → Int → Int → Option Int} (h : MeT n L rec) {l : List Va} (hw : ∀ x ∈ l, WtX n L x) (hl : l.length ≤ 1000) {most : Int} (h0 : -1 ≤ most) (h1 : most ≤ 1000) : ∀ {f i : Nat} {m : Int}, i ≤ l.length → l.length < f + i → 0 ≤ m → m ≤ most + 1 → Tot (maL rec l L most f i m) fun r => m ≤ r ∧ r ≤ most + 1 ∧ (r ≤ most → ∀ j x, i ≤ j → l[j]? = some x → SmP L x)
 | 0, i, m, g1, g2, _, _ => by omega
 | f + 1, i, m, g1, g2, g3, g4 => by
  have e1 : ((i : Int) + 1) = ((i + 1 : Nat) : Int) := by omega
  unfold maL
  rw [e1]
  refine ar (by omega) (aq (fun hi => aq (fun hm => aP (by omega) (by omega) fun x hx hmem => ?_) fun hm => ah ⟨by omega, by omega, fun h => by omega⟩) fun hi => ah ⟨by omega, by omega, fun _ j x hj hx => ?_⟩)
  ·have hxw := hw x hmem
   refine ar (by omega) (an (h x.v (most - m) hxw.1 (by omega) (by omega)) fun k ⟨k0, k1, k2⟩ => ar (by omega) (aq (fun hk => aP (by omega) (by omega) fun y hy _ => ?_) fun hk => ?_))
   ·rw [hx] at hy
    cases hy
    refine ar (by omega) (an (h x.d (most - (m + k)) hxw.2 (by omega) (by omega)) fun j ⟨j0, j1, j2⟩ => ar (by omega) ?_)
    refine (vE h hw hl h0 h1 (f := f) (i := i + 1) (m := m + k + j) (by omega) (by omega) (by omega) (by omega)).mono fun r ⟨r0, r1, r2⟩ => ⟨by omega, r1, fun hr jj y hj hy => ?_⟩
    by_cases e : jj = i
    ·subst e
     rw [show ((jj : Int)).toNat = jj by omega, hy] at hx
     cases hx
     exact GV.smP (k2 (by omega)) (j2 (by omega))
    ·exact r2 hr jj y (by omega) hy
   ·refine (vE h hw hl h0 h1 (f := f) (i := i + 1) (m := m + k) (by omega) (by omega) (by omega) (by omega)).mono fun r ⟨r0, r1, r2⟩ => ⟨by omega, r1, fun hr => by omega⟩
  ·have := (List.getElem?_eq_some_iff.1 hx).1
   omega
theorem maM_tot {n L : Nat} {rec : Vlu Va → Int → Int → Option Int} (h : MeT n L rec) : MaT n L (fun l levels most => maM rec l levels most) := by
 intro l most hw hl h0 h1
 show Tot (maM rec l L most) _
 unfold maM
 refine (vE h hw hl h0 h1 (f := l.length + 1) (i := 0) (m := 0) (by omega) (by omega) (by omega) (by omega)).mono fun r ⟨r0, r1, r2⟩ => ⟨r0, r1, fun hr x hx => ?_⟩
 obtain ⟨j, hj⟩ := List.mem_iff_getElem?.1 hx
 exact r2 hr j x (by omega) hj
theorem iD {most : Int} (h0 : -1 ≤ most) (h1 : most ≤ 1000) : Tot (fx most) fun r => r = most + 1 := by
 unfold fx
 exact ar (by omega) (ah rfl)
theorem meF_tot {n : Nat} (hn : n ≤ 9223372036854775807) {c : aI Va} (hl : ∀ f ∈ c.fields, f.label.length ≤ n) (h4 : c.fields.length ≤ 4) {most : Int} (h0 : -1 ≤ most) (h1 : most ≤ 1000) : ∀ {f i : Nat} {l : List Va}, i ≤ c.fields.length → c.fields.length < f + i → l = (c.fields.take i).map (·.val) → (∀ x ∈ c.fields.take i, x.label.length ≤ 60) → Tot (meF c most f i l) fun q => q = .ret (most + 1) ∨ q = .nxt (c.fields.map (·.val)) ∧ ∀ x ∈ c.fields, x.label.length ≤ 60
 | 0, i, l, g1, g2, _, _ => by omega
 | f + 1, i, l, g1, g2, g3, g4 => by
  have e1 : ((i : Int) + 1) = ((i + 1 : Nat) : Int) := by omega
  have hll : l.length ≤ 4 := by rw [g3, List.length_map, List.length_take]; omega
  unfold meF
  rw [e1]
  refine ar (by omega) (aq (fun hi => aP (by omega) (by omega) fun x hx hm => ?_) fun hi => ah (.inr ?_))
  ·have := hl x hm
   refine ar (by omega) (aq (fun _ => an (iD h0 h1) fun r hr => ah (.inl (by rw [hr]))) fun h60 => aP (by omega) (by omega) fun y hy _ => aZ (by omega) ?_)
   rw [hx] at hy
   cases hy
   rw [show ((i : Int)).toNat = i by omega] at hx
   have ht : c.fields.take (i + 1) = c.fields.take i ++ [x] := by rw [List.take_add_one, hx]; rfl
   refine meF_tot hn hl h4 h0 h1 (by omega) (by omega) (by rw [ht, g3, List.map_append]; rfl) fun y hy => ?_
   rw [ht] at hy
   rcases List.mem_append.1 hy with hy | hy
   ·exact g4 y hy
   ·rw [List.mem_singleton.1 hy]; omega
  ·have e : c.fields.take i = c.fields := List.take_of_length_le (by omega)
   rw [e] at g3 g4
   exact ⟨by rw [g3], g4⟩
theorem meK_tot {n : Nat} (hn : n ≤ 9223372036854775807) {c : aI Va} (hl : ∀ k ∈ c.aA, WtA n k.set) (h4 : c.aA.length ≤ 4) {most : Int} (h0 : -1 ≤ most) (h1 : most ≤ 1000) {l0 : List Va} (h5 : l0.length ≤ 4) : ∀ {f i : Nat} {l : List Va}, i ≤ c.aA.length → c.aA.length < f + i → l = l0 ++ (c.aA.take i).map (·.val) → (∀ x ∈ c.aA.take i, x.set.length ≤ 8 ∧ ∀ s ∈ x.set, s.aL.length ≤ 12) → Tot (meK c most f i l) fun q => q = .ret (most + 1) ∨ q = .nxt (l0 ++ c.aA.map (·.val)) ∧ ∀ x ∈ c.aA, x.set.length ≤ 8 ∧ ∀ s ∈ x.set, s.aL.length ≤ 12
 | 0, i, l, g1, g2, _, _ => by omega
 | f + 1, i, l, g1, g2, g3, g4 => by
  have e1 : ((i : Int) + 1) = ((i + 1 : Nat) : Int) := by omega
  have hll : l.length ≤ 8 := by rw [g3, List.length_append, List.length_map, List.length_take]; omega
  unfold meK
  rw [e1]
  refine ar (by omega) (aq (fun hi => aP (by omega) (by omega) fun x hx hm => ?_) fun hi => ah (.inr ?_))
  ·refine an (ym hn (hl x hm)) fun ok hok => aq (fun h8 => aP (by omega) (by omega) fun y hy _ => aZ (by omega) ?_) fun _ => an (iD h0 h1) fun r hr => ah (.inl (by rw [hr]))
   rw [hx] at hy
   cases hy
   rw [show ((i : Int)).toNat = i by omega] at hx
   have ht : c.aA.take (i + 1) = c.aA.take i ++ [x] := by rw [List.take_add_one, hx]; rfl
   refine meK_tot hn hl h4 h0 h1 h5 (by omega) (by omega) (by rw [ht, g3, List.map_append, List.append_assoc]; rfl) fun y hy => ?_
   rw [ht] at hy
   rcases List.mem_append.1 hy with hy | hy
   ·exact g4 y hy
   ·rw [List.mem_singleton.1 hy]; exact hok h8
  ·have e : c.aA.take i = c.aA := List.take_of_length_le (by omega)
   rw [e] at g3 g4
   exact ⟨by rw [g3], g4⟩
theorem zE : ∀ l : List (Cls Va), (∀ k ∈ l, k.set.length ≤ 8) → WK l ≤ 11 ^ l.length
 | [], _ => Nat.le_refl _
 | k :: l, h => by
  rw [fZ, List.length_cons, Nat.pow_succ, Nat.mul_comm]
  exact Nat.mul_le_mul (zE l fun k hk => h k (List.mem_cons_of_mem _ hk)) (by have := h k (List.mem_cons_self ..); unfold wK; omega)
end Go.Proofs.YtmjddpeookapaaaGreatDoor
