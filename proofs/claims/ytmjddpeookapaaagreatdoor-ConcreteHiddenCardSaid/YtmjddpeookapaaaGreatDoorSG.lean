/- For ConcreteHidden: functions of the program, walked beside Lean functions that say what they compute. -/
import Derived.Test.YtmjddpeookapaaaGreatDoorLY
import Derived.Test.YtmjddpeookapaaaGreatDoorMa
import Derived.Lib.ItoaLen
set_option linter.unusedVariables false
set_option linter.unusedSimpArgs false
set_option linter.unusedSectionVars false
namespace Go.Proofs.YtmjddpeookapaaaGreatDoor
open Go.RowKit
set_option maxRecDepth 100000
def ja (w : World) (v : Value) (l : List Int) : Prop := ∃ a cap, v = .slice a l.length cap ∧ l.length ≤ cap ∧ (l = [] ∨ ∃ b base, a = some ⟨b, base, none⟩ ∧ ∀ j x, l[j]? = some x → w.cell? ⟨b, base + j, none⟩ = some (.int .i64 x))
def pU (w : World) (v : Value) (l : List (List Int)) : Prop := ∃ a cap, v = .slice a l.length cap ∧ l.length ≤ cap ∧ (l = [] ∨ ∃ b base, a = some ⟨b, base, none⟩ ∧ ∀ j x, l[j]? = some x → ∃ u, w.cell? ⟨b, base + j, none⟩ = some u ∧ ja w u x)
theorem dB {w w' : World} (h : Below w.heap.size w w') {p : Addr} {v : Value} (e : w.cell? p = some v) : w'.cell? p = some v := by
 rw [h.cell (p := p) ?_, e]
 unfold World.cell? at e
 rcases Nat.lt_or_ge p.block w.heap.size with h1 | h1
 ·exact h1
 ·rw [Array.getElem?_eq_none h1] at e; cases e
theorem ja.at_ {w : World} {a : Option Addr} {n cap : Nat} {l : List Int} (h : ja w (.slice a n cap) l) {j : Nat} {x : Int} (e : l[j]? = some x) : n = l.length ∧ j < l.length ∧ ∃ b base, a = some ⟨b, base, none⟩ ∧ w.cell? ⟨b, base + j, none⟩ = some (.int .i64 x) := by
 obtain ⟨a', cap', h1, h2, h3⟩ := h
 cases h1
 have hj := (List.getElem?_eq_some_iff.1 e).1
 rcases h3 with rfl | ⟨b, base, h4, h5⟩
 ·cases hj
 ·exact ⟨rfl, hj, b, base, h4, h5 j x e⟩
theorem ja.all {w : World} {b base n cap : Nat} {l : List Int} (h : ja w (.slice (some ⟨b, base, none⟩) n cap) l) (j : Nat) (x : Int) (e : l[j]? = some x) : w.cell? ⟨b, base + j, none⟩ = some (.int .i64 x) := by
 obtain ⟨_, _, b', base', h1, h2⟩ := h.at_ e
 cases h1
 exact h2
theorem pU.at_ {w : World} {a : Option Addr} {n cap : Nat} {l : List (List Int)} (h : pU w (.slice a n cap) l) {j : Nat} {x : List Int} (e : l[j]? = some x) : n = l.length ∧ j < l.length ∧ ∃ b base u, a = some ⟨b, base, none⟩ ∧ w.cell? ⟨b, base + j, none⟩ = some u ∧ ja w u x := by
 obtain ⟨a', cap', h1, h2, h3⟩ := h
 cases h1
 have hj := (List.getElem?_eq_some_iff.1 e).1
 rcases h3 with rfl | ⟨b, base, h4, h5⟩
 ·cases hj
 ·obtain ⟨u, h6, h7⟩ := h5 j x e
  exact ⟨rfl, hj, b, base, u, h4, h6, h7⟩
abbrev TabW (w : World) : Prop := Lib.TabIs Tryz.prog w "internal/strconv.uint64pow10" .u64 Lib.pow10Tab
theorem TabW.below {w w' : World} (h : TabW w) (k : Below w.heap.size w w') : TabW w' := (Lib.tabBelow_of_tabIs h) w' k
abbrev IsB := Lib.IsBuilder 283 5
theorem uh {B b : Nat} {bs : List Value} {w w' : World} (h : IsB B b bs w) (k : Below w.heap.size w w') : IsB B b bs w' := by
 have key : ∀ p, Lib.BuilderAt 283 5 B b p bs w → Lib.BuilderAt 283 5 B b p bs w' := fun p h => by
  have hlt := h.lt
  obtain ⟨hB, v, hb, hown, hne⟩ := h
  refine ⟨hB, v, by rw [k.block b hlt]; exact hb, ⟨hown.1, ?_⟩, hne⟩
  rcases hown.2 with h1 | ⟨g, cap, cur, rfl, hg0, hg, rest⟩
  ·exact .inl h1
  ·exact .inr ⟨g, cap, cur, rfl, hg0, by rw [k.block g (Array.getElem?_eq_some_iff.1 hg).1]; exact hg, rest⟩
 exact h.imp (key _) (key _)
theorem cells_app (a b : List UInt8) : Lib.byteCells a ++ Lib.strCells ⟨b.toArray⟩ = Lib.byteCells (a ++ b) := by
 rw [Lib.strCells_toArray, Lib.byteCells_append]
theorem cells_len (a : List UInt8) : (Lib.byteCells a).length = a.length := by unfold Lib.byteCells; simp
set_option maxHeartbeats 4000000 in
theorem sig_run {w : World} {b : Nat} {nx cs : Value} {cls : List Int} {next : List (List Int)} {s : Int} {t : List UInt8} (hm : sigM cls next s = some t) (h1 : w.cell? ⟨b, 1, none⟩ = some nx) (h3 : w.cell? ⟨b, 3, none⟩ = some cs) (hn : pU w nx next) (hc : ja w cs cls) (ht : TabW w) :
  Calls Tryz.prog 174 #[.pointer (some ⟨b, 0, none⟩), .int .i64 s] w fun e w' => e = .returned (.string ⟨t.toArray⟩) ∧ Below w.heap.size w w' := by
 unfold sigM at hm
 obtain ⟨j, c, rfl, hcj, hm⟩ := Sv.aB hm
 obtain ⟨hci, hm⟩ := Sv.aj hm
 obtain ⟨j', row, hjj, hrow, hm⟩ := Sv.aB hm
 have hjj : j = j' := by omega
 subst hjj
 obtain ⟨hrl, hm⟩ := Sv.aj hm
 obtain ⟨a1, cap1, rfl, hcap1, _⟩ := id hn
 obtain ⟨a3, cap3, rfl, hcap3, _⟩ := id hc
 obtain ⟨_, hj1, bn, basen, u, rfl, hu, hui⟩ := hn.at_ hrow
 obtain ⟨_, hj3, bc, basec, rfl, hcc⟩ := hc.at_ hcj
 obtain ⟨a5, cap5, rfl, hcap5, _⟩ := id hui
 have F1 := Lib.hid (fun W' (h : Below w.heap.size w W') => dB h h1)
 have F3 := Lib.hid (fun W' (h : Below w.heap.size w W') => dB h h3)
 have Fu := Lib.hid (fun W' (h : Below w.heap.size w W') => dB h hu)
 have Fc := Lib.hid (fun (W' : World) (h : Below w.heap.size w W') (k : Nat) (x : Int) (e : cls[k]? = some x) => dB h (hc.all k x e))
 have Ft := Lib.hid (fun W' (h : Below w.heap.size w W') => TabW.below ht h)
 have hB0 : Below w.heap.size w (w.alloc (.cells #[.pointer none, .slice none 0 0] 283)) := (Below.refl _ w).alloc (Nat.le_refl _) _
 have h1 := dB hB0 h1
 have h3 := dB hB0 h3
 have hcc := dB hB0 hcc
 have ht := ht.below hB0
 have Hbd := Lib.hid (Lib.fresh_isBuilder 283 5 w)
 have Hrow := Lib.hid hui
 have HB0 := Lib.hid hB0
 have HM := Lib.hid hm
 clear hui hc hn hB0 hu hm
 go_enter Tryz.func174, Tryz.ntmps174
 go_wp2_with (go_at_call 209; refine (itoaC _ hci.1 (by omega) _ ht).mono ?_)
 rintro e w1 rfl hb1
 have hil := Lib.itoa_length_le c hci.1 (by omega)
 have hb1' : Below (w.alloc (.cells #[.pointer none, .slice none 0 0] 283)).heap.size (w.alloc (.cells #[.pointer none, .slice none 0 0] 283)) w1 := by simpa using hb1
 have Hbd1 := Lib.hid (uh Hbd.out hb1')
 have HB1 := Lib.hid (HB0.out.trans (hb1'.mono HB0.out.size))
 clear hb1 hb1' h1 h3 hcc ht Hbd HB0
 go_wp2_with (go_at_call 208; refine (wL w.heap.size w.heap.size _ _ w1 Hbd1.out (by simpa [ByteArray.size] using (by omega : (Lib.itoa c).length ≤ 140737488355328)) HB1.out.size).mono ?_)
 rintro e w2 ⟨rfl, hbd2, hb2⟩
 have h1 := F1.out w2 (HB1.out.trans hb2)
 have hu := Fu.out w2 (HB1.out.trans hb2)
 rw [List.nil_append, Lib.strCells_toArray] at hbd2
 have HB2 := Lib.hid (HB1.out.trans hb2)
 have Hbd2 := Lib.hid (Or.inr hbd2 : IsB w.heap.size w.heap.size (Lib.byteCells (eI c)) w2)
 clear hbd2 hb2 HB1 Hbd1
 go_wp2_with fail
 go_loopw [7, 25] (fun _ i wr => ∃ (k : Nat) (acc : List UInt8), k ≤ row.length ∧ i = .int .i64 k ∧ Hid (sigL cls (row.drop k) acc = some t) ∧ Hid (IsB w.heap.size w.heap.size (Lib.byteCells acc) wr) ∧ Hid (Below w.heap.size w wr)) (fun _ i _ => row.length - (intOf i).toNat)
 case atStart => exact ⟨0, _, Nat.zero_le _, rfl, HM, Hbd2, HB2⟩
 case round =>
  obtain ⟨k, acc, hk, rfl, Hs, Hb, HB⟩ := hrel
  by_cases hlt : k < row.length
  ·have hs := Hs.out
   rw [List.drop_eq_getElem_cons hlt] at hs
   have hx : row[k]? = some row[k] := List.getElem?_eq_getElem hlt
   generalize row[k] = x at *
   obtain ⟨_, _, br, baser, rfl, hcx⟩ := Hrow.out.at_ hx
   unfold sigL at hs
   obtain ⟨q, d, rfl, hq, hs⟩ := Sv.aB hs
   obtain ⟨hdi, hs⟩ := Sv.aj hs
   obtain ⟨hgl, hs⟩ := Sv.aj hs
   have hq3 : q < cls.length := (List.getElem?_eq_some_iff.1 hq).1
   have hb := HB.out
   have h3 := F3.out wr hb
   have hd := Fc.out wr hb q d hq
   have hcx := dB hb hcx
   have ht := Ft.out wr hb
   have Hs' := Lib.hid hs
   have Hgl := Lib.hid hgl
   clear hs hgl hb
   go_wp2_with (go_at_call 209; refine (itoaC _ hdi.1 (by omega) _ ht).mono ?_)
   rintro e w3 rfl hb3
   have Hb3 := Lib.hid (uh Hb.out hb3)
   have HB3 := Lib.hid (HB.out.trans (hb3.mono HB.out.size))
   clear hb3 h3 hd hcx ht
   have hil2 := Lib.itoa_length_le d hdi.1 (by omega)
   have Hcat : Hid ((ByteArray.mk #[44] ++ ByteArray.mk (Lib.itoa d).toArray) = ByteArray.mk ((44 : UInt8) :: Lib.itoa d).toArray) := Lib.hid (ByteArray.ext (by simp))
   have hlen : (Lib.byteCells acc).length + (ByteArray.mk #[44] ++ ByteArray.mk (Lib.itoa d).toArray).size ≤ 140737488355328 := by
    have := Hgl.out
    rw [Hcat.out]
    simp only [cells_len, ByteArray.size, List.size_toArray, List.length_cons, eI] at *
    omega
   have Hlen := Lib.hid hlen
   clear hlen
   go_wp2_with (go_at_call 208; refine (wL w.heap.size w.heap.size _ _ w3 Hb3.out Hlen.out HB3.out.size).mono ?_)
   rintro e w4 ⟨rfl, hbd4, hb4⟩
   rw [Hcat.out, cells_app] at hbd4
   have HB4 := Lib.hid (HB3.out.trans hb4)
   have Hb4 := Lib.hid (Or.inr hbd4 : IsB w.heap.size w.heap.size _ w4)
   clear hbd4 hb4
   go_wp2
   go_roundw
   case rel => exact ⟨k + 1, _, by omega, by go_num, Hs', Hb4, HB4⟩
   case measure => simp [intOf]; omega
  ·have hkl : k = row.length := by omega
   subst hkl
   have hs := Hs.out
   rw [List.drop_of_length_le (Nat.le_refl _)] at hs
   unfold sigL at hs
   cases hs
   have Hb2 := Hb.out
   have HBs := HB.out.size
   go_wp2_with (go_at_call 210; refine (strOf w.heap.size w.heap.size _ wr Hb2 HBs).mono ?_)
   rintro e w5 ⟨rfl, hb5⟩
   have HB5 := Lib.hid (HB.out.trans hb5)
   clear hb5
   go_wp2
   go_ret
   exact ⟨rfl, HB5.out⟩
/-! In the logic. -/
theorem mX {c : Sv.Ctx} {k : IntKind} : ∀ {l : List Int} {vs : List Value}, Sv.aM c (l.map (Sv.SVal.int k)) vs → vs = l.map (Value.int k)
 | [], _, h => h
 | x :: l, _, ⟨v, r, h1, h2, h3⟩ => by
  subst h3
  rw [mX h2]
  cases h1
  rfl
theorem pow10_tab : Sv.pow10 = Lib.pow10Tab := by decide
theorem tab_of {c : Sv.Ctx} {H : Sv.eT} {w : World} (hr : Sv.Rep c H w) (h0 : H 0 = some Sv.aS) : TabW w := by
 obtain ⟨l, _, ho⟩ := hr.cW 0 _ h0
 cases l with
 | box => exact ho.elim
 | row ob st sz u =>
  obtain ⟨rfl, _, arr, e, f, _, h1, h2⟩ := ho
  have h3 := mX h2
  show World.var? _ _ _ = _
  unfold World.var?
  rw [qi]
  simp only [Option.bind_some, h1]
  rw [← pow10_tab, ← h3]
theorem vI {st : Sv.St} {x : Sv.SVal} {l : List Int} (h : Sv.cH st x (l.map Sv.bt)) {c : Sv.Ctx} {w : World} (hr : Sv.Rep c st.look w) {u : Value} (hx : Sv.Den c x u) : ja w u l := by
 obtain ⟨a, cap, rfl, h1, news, h2, h3, _, h4⟩ := h.spec hr hx (sz := 1) (fun r hr => by obtain ⟨y, _, rfl⟩ := List.mem_map.1 hr; rfl)
 rw [List.length_map] at h1 h3 ⊢
 refine ⟨a, cap, rfl, h1, ?_⟩
 rcases h4 with h4 | ⟨b, base, rfl, h5⟩
 ·exact .inl (List.map_eq_nil_iff.1 h4)
 ·refine .inr ⟨b, base, rfl, fun j y hy => h5 j _ ?_⟩
  have e : (l.map Sv.bt).flatten = l.map (Sv.SVal.int .i64) := by
   clear h2 h3 h5 h1 hx h hy
   induction l with
   | nil => rfl
   | cons a l ih => rw [List.map_cons, List.flatten_cons, ih]; rfl
  rw [e] at h2
  rw [mX h2, List.getElem?_map, hy]
  rfl
theorem intss_of {st : Sv.St} {x : Sv.SVal} {l : List (List Int)} (h : Sv.cH st x (l.map Sv.eN)) {c : Sv.Ctx} {w : World} (hr : Sv.Rep c st.look w) {u : Value} (hx : Sv.Den c x u) : pU w u l := by
 obtain ⟨a, cap, rfl, h1, news, h2, h3, _, h4⟩ := h.spec hr hx (sz := 1) (fun r hr => by obtain ⟨y, _, rfl⟩ := List.mem_map.1 hr; rfl)
 rw [List.length_map] at h1 h3 ⊢
 refine ⟨a, cap, rfl, h1, ?_⟩
 rcases h4 with h4 | ⟨b, base, rfl, h5⟩
 ·exact .inl (List.map_eq_nil_iff.1 h4)
 ·refine .inr ⟨b, base, rfl, fun j y hy => ?_⟩
  have e : (l.map Sv.eN).flatten = l.map fun y => Sv.SVal.lst false (y.map Sv.bt) := by
   clear h2 h3 h5 h1 hx h hy
   induction l with
   | nil => rfl
   | cons a l ih => rw [List.map_cons, List.flatten_cons, ih]; rfl
  rw [e] at h2
  obtain ⟨v, h6, h7⟩ := h2.get (i := j) (s := .lst false (y.map Sv.bt)) (by rw [List.getElem?_map, hy]; rfl)
  exact ⟨v, h5 j v h6, vI .lst hr h7⟩
theorem call_sig {cls : List Int} {next : List (List Int)} {s : Int} {t : List UInt8} {st : Sv.St} {k : Nat} {K : Sv.SVal → Sv.St → Prop} {x y nv cv : Sv.SVal} (hm : sigM cls next s = some t) (hl : st.look k = some (.cells [x, nv, y, cv])) (hn : Sv.cH st nv (next.map Sv.eN)) (hc : Sv.cH st cv (cls.map Sv.bt)) (h0 : st.look 0 = some Sv.aS) (hk : K (.str t) st) :
  Sv.dI Tryz.prog 174 [.ptr k 0, .int .i64 s] st K := by
 refine ⟨.str t, st, fun o d fop first cap ss ev ho hcl hf hev ha => Sv.hZ ho hcl hf hev ?_, hk⟩
 rw [ha]
 refine ⟨⟨Tryz.f174, _, (aa.funcs 174 Tryz.f174 rfl).1, (aa.funcs 174 Tryz.f174 rfl).2, rfl⟩, Sv.Sta.refl st, fun {c w} hr hwf hfree {vs} hd => ?_⟩
 obtain ⟨v1, l1, ⟨b, hb, rfl⟩, ⟨v2, l2, rfl, rfl, rfl⟩, rfl⟩ := hd
 obtain ⟨l, hρ, ho⟩ := hr.cW k _ hl
 rw [hb] at hρ
 cases hρ
 obtain ⟨arr, e, harr, hden, _⟩ := ho
 obtain ⟨nx, g1, dn⟩ := hden.get (i := 1) rfl
 obtain ⟨cs, g3, dc⟩ := hden.get (i := 3) rfl
 have h1 : w.cell? ⟨b, 1, none⟩ = some nx := by rw [Lib.cell_of_heap harr, ← g1]; simp
 have h3 : w.cell? ⟨b, 3, none⟩ = some cs := by rw [Lib.cell_of_heap harr, ← g3]; simp
 refine (sig_run hm h1 h3 (intss_of hn hr dn) (vI hc hr dc) (tab_of hr h0)).mono fun e w' ⟨he, hB⟩ => ?_
 have hg : Sv.cE w w' := ⟨hB.os, hB.tape, hB.output, hB.size, fun r h => hB.block r h⟩
 obtain ⟨r1, s1⟩ := Sv.iu hr hg (fun _ _ _ h => h) (fun _ _ _ h => .inl h) (fun bb i v hv => by
  obtain ⟨arr, e, f, q1, q2⟩ := hr.fz bb i v hv
  exact ⟨arr, e, f, by rw [hg.old bb (Array.getElem?_eq_some_iff.1 q1).1]; exact q1, q2⟩)
 exact ⟨_, he, ⟨c.ρ, c.fz⟩, ⟨rfl, r1, s1⟩⟩
end Go.Proofs.YtmjddpeookapaaaGreatDoor
