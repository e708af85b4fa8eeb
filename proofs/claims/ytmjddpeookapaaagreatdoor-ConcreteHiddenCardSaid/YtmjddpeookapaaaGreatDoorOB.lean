/- For ConcreteHidden: arguments as trees: the types. -/
import Derived.Test.YtmjddpeookapaaaGreatDoorOA
import Derived.Test.YtmjddpeookapaaaGreatDoorNf
set_option linter.unusedVariables false
set_option linter.unusedSimpArgs false
set_option linter.unusedSectionVars false
namespace Go.Proofs.YtmjddpeookapaaaGreatDoor
open Sv
set_option maxRecDepth 100000
theorem o9 : Tryz.prog.cellsOf 2 = 1 := by kernel_rfl
theorem uJ : Tryz.prog.cellsOf 3 = 1 := by kernel_rfl
theorem l9 : Tryz.prog.cellsOf 4 = 1 := by kernel_rfl
theorem zj : Tryz.prog.cellsOf 5 = 1 := by kernel_rfl
theorem cells_str : Tryz.prog.cellsOf 9 = 1 := by kernel_rfl
theorem o6 : Tryz.prog.cellsOf 22 = 1 := by kernel_rfl
theorem r8 : Tryz.prog.cellsOf 58 = 2 := by kernel_rfl
theorem sd : Tryz.prog.cellsOf 24 = 2 := by kernel_rfl
theorem zk : Tryz.prog.cellsOf 111 = 1 := by kernel_rfl
theorem se : Tryz.prog.cellsOf 133 = 3 := by kernel_rfl
theorem wi : Tryz.prog.cellsOf 25 = 1 := by kernel_rfl
theorem o5 : Tryz.prog.cellsOf 113 = 2 := by kernel_rfl
theorem l8 : Tryz.prog.cellsOf 27 = 1 := by kernel_rfl
theorem r9 : Tryz.prog.cellsOf 29 = 6 := by kernel_rfl
theorem r7 : Tryz.prog.cellsOf 48 = 1 := by kernel_rfl
theorem k6 : Tryz.prog.cellsOf 35 = 18 := by kernel_rfl
theorem jW : Tryz.prog.cellsOf 33 = 9 := by kernel_rfl
theorem o8 : Tryz.prog.cellsOf 92 = 2 := by kernel_rfl
theorem wk : Tryz.prog.cellsOf 30 = 1 := by kernel_rfl
theorem o7 : Tryz.prog.cellsOf 64 = 2 := by kernel_rfl
theorem wj : Tryz.prog.cellsOf 31 = 1 := by kernel_rfl
theorem pa : Tryz.prog.cellsOf 60 = 20 := by kernel_rfl
theorem wm : Tryz.prog.cellsOf 61 = 1 := by kernel_rfl
theorem pb : Tryz.prog.cellsOf 95 = 19 := by kernel_rfl
theorem tp : Tryz.prog.cellsOf 62 = 1 := by kernel_rfl
theorem i64_rng {x : Int} (h : (Lit.int .i64 x).wf = true) : -9223372036854775808 ≤ x ∧ x < 9223372036854775808 := by
 unfold Lit.wf at h
 rw [Bool.and_eq_true, decide_eq_true_eq, decide_eq_true_eq] at h
 have h : -9223372036854775808 ≤ x ∧ x ≤ 9223372036854775807 := h
 omega
theorem u8_rng {x : Int} (h : (Lit.int .u8 x).wf = true) : 0 ≤ x ∧ x < 256 := by
 unfold Lit.wf at h
 rw [Bool.and_eq_true, decide_eq_true_eq, decide_eq_true_eq] at h
 have h : 0 ≤ x ∧ x ≤ 255 := h
 omega
section
variable {H : Type} {enc : TypeId × Value → H} {w : World} {base : Nat} {spare : Nat → Bool} {held : Bool} {c : Ctx}
theorem xZ (fuel : Nat) : Op enc w base spare held c (fun x : Int => [.int .i64 x]) (fun x => -9223372036854775808 ≤ x ∧ x < 9223372036854775808) 2 fuel := by
 intro cs x h
 obtain ⟨n, rfl, rfl, hw⟩ := DataW.trod_int Tryz.underlying2 h
 exact ⟨n, DL.one rfl rfl, i64_rng hw⟩
theorem op_int (fuel : Nat) : Op enc w base spare held c (fun x : Int => [.int .i64 x]) (fun x => True) 3 fuel := by
 intro cs x h
 obtain ⟨n, rfl, rfl, hw⟩ := DataW.trod_int Tryz.underlying3 h
 exact ⟨n, DL.one rfl rfl, trivial⟩
theorem op_u8 (fuel : Nat) : Op enc w base spare held c (fun x : Int => [.int .u8 x]) (fun x => 0 ≤ x ∧ x < 256) 5 fuel := by
 intro cs x h
 obtain ⟨n, rfl, rfl, hw⟩ := DataW.trod_int Tryz.underlying5 h
 exact ⟨n, DL.one rfl rfl, u8_rng hw⟩
theorem mB (fuel : Nat) : Op enc w base spare held c (fun x : Bool => [.bool x]) (fun x => True) 4 fuel := by
 intro cs x h
 obtain ⟨n, rfl, rfl⟩ := DataW.trod_bool Tryz.underlying4 h
 exact ⟨n, DL.one rfl rfl, trivial⟩
theorem op_str (fuel : Nat) : Op enc w base spare held c (fun x : List UInt8 => [.str x]) (fun x => x.length ≤ 9223372036854775807) 9 fuel := by
 intro cs x h
 obtain ⟨s, rfl, rfl, hs⟩ := DataW.trod_string Tryz.underlying9 h
 rw [maxLen_eq] at hs
 refine ⟨s.data.toList, DL.one rfl rfl, ?_⟩
 show s.data.toList.length ≤ _
 rw [Array.length_toList]
 exact hs
theorem lM {α β γ : Type} {f : α → List SVal} {Q : α → Prop} {g : β → List SVal} {R : β → Prop} (m : α → β → γ) {F : γ → List SVal} {S : γ → Prop} {t : TypeId} {f0 f1 : Field} {n0 n1 : Nat} (ht : Tryz.prog.underlying t = some (.struct #[f0, f1])) (h0 : Tryz.prog.cellsOf f0.type = n0) (h1 : Tryz.prog.cellsOf f1.type = n1) (hn : Tryz.prog.cellsOf t = n0 + n1) (o0 : f0.offset = 0) (o1 : f1.offset = n0)
  (hF : ∀ a b, F (m a b) = f a ++ g b) (hS : ∀ a b, Q a → R b → S (m a b)) {fuel : Nat} (k0 : ∀ n, n < fuel → Op enc w base spare held c f Q f0.type n) (k1 : ∀ n, n < fuel → Op enc w base spare held c g R f1.type n) : Op enc w base spare held c F S t fuel := by
 intro cs x h
 obtain ⟨xs, n, rfl, rfl, hl, hlen, hf⟩ := DataW.trod_struct ht h
 have g0 := hf 0 f0 rfl
 have g1 := hf 1 f1 rfl
 rw [h0, o0, List.drop_zero] at g0
 rw [h1, o1] at g1
 rw [hn] at hl
 obtain ⟨y0, hy0⟩ : ∃ y, xs[0]? = some y := ⟨_, List.getElem?_eq_getElem (by rw [hlen]; show 0 < 2; omega)⟩
 obtain ⟨y1, hy1⟩ : ∃ y, xs[1]? = some y := ⟨_, List.getElem?_eq_getElem (by rw [hlen]; show 1 < 2; omega)⟩
 rw [hy0] at g0
 rw [hy1] at g1
 obtain ⟨a, a1, a2⟩ := k0 n (by omega) _ _ g0
 obtain ⟨b, b1, b2⟩ := k1 n (by omega) _ _ g1
 refine ⟨m a b, ?_, hS a b a2 b2⟩
 rw [hF]
 have e : cs = cs.take n0 ++ (cs.drop n0).take n1 := by
  rw [List.take_of_length_le (l := cs.drop n0) (by rw [List.length_drop]; omega), List.take_append_drop]
 rw [e]
 exact a1.app b1
theorem xX {α β γ δ : Type} {f : α → List SVal} {Q : α → Prop} {g : β → List SVal} {R : β → Prop} {e : δ → List SVal} {T : δ → Prop} (m : α → β → δ → γ) {F : γ → List SVal} {S : γ → Prop} {t : TypeId} {f0 f1 f2 : Field} {n0 n1 n2 : Nat} (ht : Tryz.prog.underlying t = some (.struct #[f0, f1, f2])) (h0 : Tryz.prog.cellsOf f0.type = n0) (h1 : Tryz.prog.cellsOf f1.type = n1) (h2 : Tryz.prog.cellsOf f2.type = n2) (hn : Tryz.prog.cellsOf t = n0 + n1 + n2) (o0 : f0.offset = 0) (o1 : f1.offset = n0) (o2 : f2.offset = n0 + n1)
  (hF : ∀ a b d, F (m a b d) = f a ++ (g b ++ e d)) (hS : ∀ a b d, Q a → R b → T d → S (m a b d)) {fuel : Nat} (k0 : ∀ n, n < fuel → Op enc w base spare held c f Q f0.type n) (k1 : ∀ n, n < fuel → Op enc w base spare held c g R f1.type n) (k2 : ∀ n, n < fuel → Op enc w base spare held c e T f2.type n) : Op enc w base spare held c F S t fuel := by
 intro cs x h
 obtain ⟨xs, n, rfl, rfl, hl, hlen, hf⟩ := DataW.trod_struct ht h
 have g0 := hf 0 f0 rfl
 have g1 := hf 1 f1 rfl
 have g2 := hf 2 f2 rfl
 rw [h0, o0, List.drop_zero] at g0
 rw [h1, o1] at g1
 rw [h2, o2] at g2
 rw [hn] at hl
 obtain ⟨y0, hy0⟩ : ∃ y, xs[0]? = some y := ⟨_, List.getElem?_eq_getElem (by rw [hlen]; show 0 < 3; omega)⟩
 obtain ⟨y1, hy1⟩ : ∃ y, xs[1]? = some y := ⟨_, List.getElem?_eq_getElem (by rw [hlen]; show 1 < 3; omega)⟩
 obtain ⟨y2, hy2⟩ : ∃ y, xs[2]? = some y := ⟨_, List.getElem?_eq_getElem (by rw [hlen]; show 2 < 3; omega)⟩
 rw [hy0] at g0
 rw [hy1] at g1
 rw [hy2] at g2
 obtain ⟨a, a1, a2⟩ := k0 n (by omega) _ _ g0
 obtain ⟨b, b1, b2⟩ := k1 n (by omega) _ _ g1
 obtain ⟨d, d1, d2⟩ := k2 n (by omega) _ _ g2
 refine ⟨m a b d, ?_, hS a b d a2 b2 d2⟩
 rw [hF]
 have e : cs = cs.take n0 ++ ((cs.drop n0).take n1 ++ (cs.drop (n0 + n1)).take n2) := by
  rw [List.take_of_length_le (l := cs.drop (n0 + n1)) (by rw [List.length_drop]; omega), ← List.drop_drop, List.take_append_drop, List.take_append_drop]
 rw [e]
 exact a1.app (b1.app d1)
theorem op_one {α γ : Type} {f : α → List SVal} {Q : α → Prop} (m : α → γ) {F : γ → List SVal} {S : γ → Prop} {t : TypeId} {f0 : Field} {n0 : Nat} (ht : Tryz.prog.underlying t = some (.struct #[f0])) (h0 : Tryz.prog.cellsOf f0.type = n0) (hn : Tryz.prog.cellsOf t = n0) (o0 : f0.offset = 0)
  (hF : ∀ a, F (m a) = f a) (hS : ∀ a, Q a → S (m a)) {fuel : Nat} (k0 : ∀ n, n < fuel → Op enc w base spare held c f Q f0.type n) : Op enc w base spare held c F S t fuel := by
 intro cs x h
 obtain ⟨xs, n, rfl, rfl, hl, hlen, hf⟩ := DataW.trod_struct ht h
 have g0 := hf 0 f0 rfl
 rw [h0, o0, List.drop_zero] at g0
 rw [hn] at hl
 obtain ⟨y0, hy0⟩ : ∃ y, xs[0]? = some y := ⟨_, List.getElem?_eq_getElem (by rw [hlen]; show 0 < 1; omega)⟩
 rw [hy0] at g0
 obtain ⟨a, a1, a2⟩ := k0 n (by omega) _ _ g0
 refine ⟨m a, ?_, hS a a2⟩
 rw [hF]
 rw [List.take_of_length_le (by omega)] at a1
 exact a1
theorem Op.mono {α : Type} {f : α → List SVal} {Q R : α → Prop} {t : TypeId} {fuel : Nat} (h : Op enc w base spare held c f Q t fuel) (k : ∀ a, Q a → R a) : Op enc w base spare held c f R t fuel := fun cs x hx => let ⟨a, h1, h2⟩ := h cs x hx; ⟨a, h1, k a h2⟩
def rngS (s : Sv.Span) : Prop := -9223372036854775808 ≤ s.lo ∧ s.lo < 9223372036854775808 ∧ -9223372036854775808 ≤ s.hi ∧ s.hi < 9223372036854775808
theorem op_span (fuel : Nat) : Op enc w base spare held c b6 rngS 58 fuel :=
 lM (m := fun a b => (⟨a, b⟩ : Sv.Span)) Tryz.underlying58 o9 o9 r8 rfl rfl (fun _ _ => rfl) (fun a b h k => ⟨h.1, h.2, k.1, k.2⟩) (fun n _ => xZ n) (fun n _ => xZ n)
theorem xY (hc : c.fz = fzW w) (fuel : Nat) : Op enc w base spare held c (fun l : List Sv.Span => [aQ l]) (SpI 9223372036854775807) 22 fuel :=
 fF enc w base spare held c hc Tryz.underlying22 r8 (by omega) fun n _ => op_span n
theorem op_edge (fuel : Nat) : Op enc w base spare held c ck EB 133 fuel :=
 xX (m := fun a b d => (⟨a, b, d⟩ : Sv.Edge)) Tryz.underlying133 zj zj uJ se rfl rfl rfl (fun _ _ _ => rfl) (fun a b d h k _ => ⟨h.1, h.2, k.1, k.2⟩) (fun n _ => op_u8 n) (fun n _ => op_u8 n) (fun n _ => op_int n)
theorem op_state (hc : c.fz = fzW w) (fuel : Nat) : Op enc w base spare held c fu (fun s => s.aL.length ≤ 9223372036854775807 ∧ ∀ e ∈ s.aL, EB e) 113 fuel :=
 lM (m := fun a b => (⟨a, b⟩ : Stt)) Tryz.underlying113 l9 zk o5 rfl rfl (fun _ _ => rfl) (fun a b _ k => k) (fun n _ => mB n) (fun n _ => fF enc w base spare held c hc Tryz.underlying111 se (by omega) fun n _ => op_edge n)
theorem op_lang (hc : c.fz = fzW w) (fuel : Nat) : Op enc w base spare held c (fun l : List Stt => [aC l]) (WtA 9223372036854775807) 27 fuel :=
 op_one (m := fun l => l) Tryz.underlying27 wi l8 rfl (fun _ => rfl) (fun l h => ⟨h.1, fun s hs => (h.2 s hs).1, fun s hs => (h.2 s hs).2⟩) fun n _ => fF enc w base spare held c hc Tryz.underlying25 o5 (by omega) fun n _ => op_state hc n
theorem op_nums (hc : c.fz = fzW w) (fuel : Nat) : Op enc w base spare held c (fun p : List Sv.Span × List Sv.Span => [aQ p.1, aQ p.2]) (fun p => SpI 9223372036854775807 p.1 ∧ SpI 9223372036854775807 p.2) 24 fuel :=
 lM (m := fun a b => (a, b)) Tryz.underlying24 o6 o6 sd rfl rfl (fun _ _ => rfl) (fun a b h k => ⟨h, k⟩) (fun n _ => xY hc n) (fun n _ => xY hc n)
theorem op_scal (hc : c.fz = fzW w) (fuel : Nat) : Op enc w base spare held c bS (WtS 9223372036854775807) 29 fuel := by
 intro cs x h
 obtain ⟨xs, n, rfl, rfl, hl, hlen, hf⟩ := DataW.trod_struct Tryz.underlying29 h
 rw [r9] at hl
 match cs, hl with
 | [c0, c1, c2, c3, c4, c5], _ =>
  match xs, hlen with
  | [y0, y1, y2, y3, y4], _ =>
   have g0 : DataW.trod enc Tryz.prog w base spare held n 4 (([c0, c1, c2, c3, c4, c5].drop 0).take (Tryz.prog.cellsOf 4)) = some y0 := hf 0 _ rfl
   have g1 : DataW.trod enc Tryz.prog w base spare held n 4 (([c0, c1, c2, c3, c4, c5].drop 1).take (Tryz.prog.cellsOf 4)) = some y1 := hf 1 _ rfl
   have g2 : DataW.trod enc Tryz.prog w base spare held n 4 (([c0, c1, c2, c3, c4, c5].drop 2).take (Tryz.prog.cellsOf 4)) = some y2 := hf 2 _ rfl
   have g3 : DataW.trod enc Tryz.prog w base spare held n 24 (([c0, c1, c2, c3, c4, c5].drop 3).take (Tryz.prog.cellsOf 24)) = some y3 := hf 3 _ rfl
   have g4 : DataW.trod enc Tryz.prog w base spare held n 27 (([c0, c1, c2, c3, c4, c5].drop 5).take (Tryz.prog.cellsOf 27)) = some y4 := hf 4 _ rfl
   rw [l9] at g0 g1 g2
   rw [sd] at g3
   rw [l8] at g4
   obtain ⟨a0, p0, _⟩ := mB n _ _ g0
   obtain ⟨a1, p1, _⟩ := mB n _ _ g1
   obtain ⟨a2, p2, _⟩ := mB n _ _ g2
   obtain ⟨⟨a3, a4⟩, p3, q3⟩ := op_nums hc n _ _ g3
   obtain ⟨a5, p5, q5⟩ := op_lang hc n _ _ g4
   exact ⟨⟨a0, a1, a2, a3, a4, a5⟩, p0.app (p1.app (p2.app (p3.app p5))), ⟨q3.1, q3.2, q5⟩⟩
def AllW (x : Va) : Prop := ∀ d, WtX 9223372036854775807 d x
def OV (enc : TypeId × Value → H) (w : World) (base : Nat) (spare : Nat → Bool) (held : Bool) (c : Ctx) (n : Nat) : Prop := Op enc w base spare held c eVa AllW 35 n
theorem op_vals (hc : c.fz = fzW w) {fuel : Nat} (ih : ∀ n, n < fuel → OV enc w base spare held c n) : Op enc w base spare held c (fun l : List Va => [.lst false (l.map eVa)]) (fun l => l.length ≤ 9223372036854775807 ∧ ∀ a ∈ l, AllW a) 48 fuel :=
 fF enc w base spare held c hc Tryz.underlying48 k6 (by omega) fun n hn => ih n hn
def QL (c : aT Va) : Prop := (c.items.length ≤ 9223372036854775807 ∧ ∀ a ∈ c.items, AllW a) ∧ (c.rest.length ≤ 9223372036854775807 ∧ ∀ a ∈ c.rest, AllW a)
theorem op_lcase (hc : c.fz = fzW w) {fuel : Nat} (ih : ∀ n, n < fuel → OV enc w base spare held c n) : Op enc w base spare held c (aO eVa) QL 92 fuel :=
 lM (m := fun a b => (⟨a, b⟩ : aT Va)) Tryz.underlying92 r7 r7 o8 rfl rfl (fun _ _ => rfl) (fun a b h k => ⟨h, k⟩) (fun n hn => op_vals hc fun m hm => ih m (by omega)) (fun n hn => op_vals hc fun m hm => ih m (by omega))
def QF (f : Fld Va) : Prop := f.label.length ≤ 9223372036854775807 ∧ AllW f.val
theorem op_field {fuel : Nat} (ih : ∀ n, n < fuel → OV enc w base spare held c n) : Op enc w base spare held c (cC eVa) QF 60 fuel :=
 xX (m := fun a b d => (⟨a, b, d⟩ : Fld Va)) Tryz.underlying60 cells_str uJ k6 pa rfl rfl rfl (fun _ _ _ => rfl) (fun a b d h _ k => ⟨h, k⟩) (fun n _ => op_str n) (fun n _ => op_int n) (fun n hn => ih n hn)
def QK (k : Cls Va) : Prop := WtA 9223372036854775807 k.set ∧ AllW k.val
theorem op_class (hc : c.fz = fzW w) {fuel : Nat} (ih : ∀ n, n < fuel → OV enc w base spare held c n) : Op enc w base spare held c (cQ eVa) QK 95 fuel :=
 lM (m := fun a b => (⟨a, b⟩ : Cls Va)) Tryz.underlying95 l8 k6 pb rfl rfl (fun _ _ => rfl) (fun a b h k => ⟨h, k⟩) (fun n _ => op_lang hc n) (fun n hn => ih n hn)
def QS (c : aI Va) : Prop := (c.fields.length ≤ 9223372036854775807 ∧ ∀ f ∈ c.fields, QF f) ∧ (c.aA.length ≤ 9223372036854775807 ∧ ∀ k ∈ c.aA, QK k)
theorem op_scase (hc : c.fz = fzW w) {fuel : Nat} (ih : ∀ n, n < fuel → OV enc w base spare held c n) : Op enc w base spare held c (aF eVa) QS 64 fuel :=
 lM (m := fun a b => (⟨a, b⟩ : aI Va)) Tryz.underlying64 wm tp o7 rfl rfl (fun _ _ => rfl) (fun a b h k => ⟨h, k⟩)
  (fun n hn => fF enc w base spare held c hc Tryz.underlying61 pa (by omega) fun m hm => op_field fun i hi => ih i (by omega))
  (fun n hn => fF enc w base spare held c hc Tryz.underlying62 pb (by omega) fun m hm => op_class hc fun i hi => ih i (by omega))
def QV (v : Vlu Va) : Prop := ∀ d, WtV 9223372036854775807 d v
theorem xW (hc : c.fz = fzW w) {fuel : Nat} (ih : ∀ n, n < fuel → OV enc w base spare held c n) : Op enc w base spare held c (bM eVa) QV 33 fuel := by
 intro cs x h
 obtain ⟨xs, n, rfl, rfl, hl, hlen, hf⟩ := DataW.trod_struct Tryz.underlying33 h
 rw [jW] at hl
 match cs, hl with
 | [c0, c1, c2, c3, c4, c5, c6, c7, c8], _ =>
  match xs, hlen with
  | [y0, y1, y2, y3], _ =>
   have g0 : DataW.trod enc Tryz.prog w base spare held n 4 (([c0, c1, c2, c3, c4, c5, c6, c7, c8].drop 0).take (Tryz.prog.cellsOf 4)) = some y0 := hf 0 _ rfl
   have g1 : DataW.trod enc Tryz.prog w base spare held n 29 (([c0, c1, c2, c3, c4, c5, c6, c7, c8].drop 1).take (Tryz.prog.cellsOf 29)) = some y1 := hf 1 _ rfl
   have g2 : DataW.trod enc Tryz.prog w base spare held n 30 (([c0, c1, c2, c3, c4, c5, c6, c7, c8].drop 7).take (Tryz.prog.cellsOf 30)) = some y2 := hf 2 _ rfl
   have g3 : DataW.trod enc Tryz.prog w base spare held n 31 (([c0, c1, c2, c3, c4, c5, c6, c7, c8].drop 8).take (Tryz.prog.cellsOf 31)) = some y3 := hf 3 _ rfl
   rw [l9] at g0
   rw [r9] at g1
   rw [wk] at g2
   rw [wj] at g3
   obtain ⟨a0, p0, _⟩ := mB n _ _ g0
   obtain ⟨a1, p1, q1⟩ := op_scal hc n _ _ g1
   obtain ⟨a2, p2, q2, r2⟩ := fF enc w base spare held c hc (Q := QL) Tryz.underlying30 o8 (by omega) (fun m hm => op_lcase hc fun i hi => ih i (by omega)) _ _ g2
   obtain ⟨a3, p3, q3, r3⟩ := fF enc w base spare held c hc (Q := QS) Tryz.underlying31 o7 (by omega) (fun m hm => op_scase hc fun i hi => ih i (by omega)) _ _ g3
   refine ⟨⟨a0, a1, a2, a3⟩, p0.app (p1.app (p2.app p3)), fun d => ?_⟩
   cases d with
   | zero => trivial
   | succ d =>
    exact { sc := q1, ll := q2, sl := q3, il := fun c hc => (r2 c hc).1.1, rl := fun c hc => (r2 c hc).2.1, i := fun c hc x hx => (r2 c hc).1.2 x hx d, r := fun c hc x hx => (r2 c hc).2.2 x hx d, fl := fun c hc => (r3 c hc).1.1, kl := fun c hc => (r3 c hc).2.1, lab := fun c hc f hf => ((r3 c hc).1.2 f hf).1, f := fun c hc f hf => ((r3 c hc).1.2 f hf).2 d, a := fun c hc k hk => ((r3 c hc).2.2 k hk).1, k := fun c hc k hk => ((r3 c hc).2.2 k hk).2 d }
theorem op_val (hc : c.fz = fzW w) (fuel : Nat) : OV enc w base spare held c fuel := by
 induction fuel using Nat.strongRecOn with
 | _ fuel ih =>
  refine lM (m := fun a b => Va.mk a b) Tryz.underlying35 jW jW k6 rfl rfl (fun a b => ?_) (fun a b (h : QV a) (k : QV b) d => ⟨h d, k d⟩) (fun n hn => xW hc fun m hm => ih m (by omega)) (fun n hn => xW hc fun m hm => ih m (by omega))
  rw [eVa, k8, k8]
end
end Go.Proofs.YtmjddpeookapaaaGreatDoor
