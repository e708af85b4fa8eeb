import Derived.Test.YtaianhhmmacblaaAlive
import Derived.Test.YtaianhhmmacblaaOpen
import Derived.Test.YtaianhhmmacblaaRelKV
import Derived.Test.YtaianhhmmacblaaLaws1
/-
  The law NumsetCompare.
-/
namespace Go.Proofs.Ytaianhhmmacblaa
open Go Go.RowKit
attribute [local irreducible] relSeq relSeqV endE upd

set_option maxRecDepth 100000 in
set_option maxHeartbeats 4000000 in
theorem lawCompare (w : World) (v0 : Value) (a : Nm) (h0 : NmAt w v0 a) (r0 : InR a.fracs) (v1 : Value) (b : Nm) (h1 : NmAt w v1 b) (r1 : InR b.fracs) (v2 : Value) (c : Nm) (h2 : NmAt w v2 c) (r2 : InR c.fracs)  :
    Calls Try.prog 10 #[v0, v1, v2] w fun e w' => e = .returned (.bool true) ∧ Ext w w' := by
  have g0 := h0
  obtain ⟨A0, c0, B0, e0, rfl, x0, y0⟩ := g0
  have g1 := h1
  obtain ⟨A1, c1, B1, e1, rfl, x1, y1⟩ := g1
  have g2 := h2
  obtain ⟨A2, c2, B2, e2, rfl, x2, y2⟩ := g2
  have b0 : BlkN (((w.alloc (.cells #[.slice A0 a.ints.length c0, .slice B0 a.fracs.length e0] 24)).alloc (.cells #[.slice A1 b.ints.length c1, .slice B1 b.fracs.length e1] 24)).alloc (.cells #[.slice A2 c.ints.length c2, .slice B2 c.fracs.length e2] 24)) w.heap.size (.slice A0 a.ints.length c0) (.slice B0 a.fracs.length e0) := by simpa using ((BlkN.new w (.slice A0 a.ints.length c0) (.slice B0 a.fracs.length e0)).alloc _).alloc _
  have b1 : BlkN (((w.alloc (.cells #[.slice A0 a.ints.length c0, .slice B0 a.fracs.length e0] 24)).alloc (.cells #[.slice A1 b.ints.length c1, .slice B1 b.fracs.length e1] 24)).alloc (.cells #[.slice A2 c.ints.length c2, .slice B2 c.fracs.length e2] 24)) (w.heap.size + 1) (.slice A1 b.ints.length c1) (.slice B1 b.fracs.length e1) := by simpa using (BlkN.new (w.alloc (.cells #[.slice A0 a.ints.length c0, .slice B0 a.fracs.length e0] 24)) (.slice A1 b.ints.length c1) (.slice B1 b.fracs.length e1)).alloc _
  have b2 : BlkN (((w.alloc (.cells #[.slice A0 a.ints.length c0, .slice B0 a.fracs.length e0] 24)).alloc (.cells #[.slice A1 b.ints.length c1, .slice B1 b.fracs.length e1] 24)).alloc (.cells #[.slice A2 c.ints.length c2, .slice B2 c.fracs.length e2] 24)) (w.heap.size + 2) (.slice A2 c.ints.length c2) (.slice B2 c.fracs.length e2) := by simpa using BlkN.new ((w.alloc (.cells #[.slice A0 a.ints.length c0, .slice B0 a.fracs.length e0] 24)).alloc (.cells #[.slice A1 b.ints.length c1, .slice B1 b.fracs.length e1] 24)) (.slice A2 c.ints.length c2) (.slice B2 c.fracs.length e2)
  have hEW : Ext w (((w.alloc (.cells #[.slice A0 a.ints.length c0, .slice B0 a.fracs.length e0] 24)).alloc (.cells #[.slice A1 b.ints.length c1, .slice B1 b.fracs.length e1] 24)).alloc (.cells #[.slice A2 c.ints.length c2, .slice B2 c.fracs.length e2] 24)) := (((Ext.refl w).alloc _).alloc _).alloc _
  have hsz : (((w.alloc (.cells #[.slice A0 a.ints.length c0, .slice B0 a.fracs.length e0] 24)).alloc (.cells #[.slice A1 b.ints.length c1, .slice B1 b.fracs.length e1] 24)).alloc (.cells #[.slice A2 c.ints.length c2, .slice B2 c.fracs.length e2] 24)).heap.size = w.heap.size + 3 := by simp
  go_enter Try.func10, Try.ntmps10
  generalize hW0 : (((w.alloc (.cells #[.slice A0 a.ints.length c0, .slice B0 a.fracs.length e0] 24)).alloc (.cells #[.slice A1 b.ints.length c1, .slice B1 b.fracs.length e1] 24)).alloc (.cells #[.slice A2 c.ints.length c2, .slice B2 c.fracs.length e2] 24)) = W at *
  have hh := heap_alloc_new W (.cells #[.slice A0 a.ints.length c0, .slice B0 a.fracs.length e0, .slice A1 b.ints.length c1, .slice B1 b.fracs.length e1, .slice A2 c.ints.length c2, .slice B2 c.fracs.length e2] 24)
  have hE1 := (Ext.refl W).alloc (.cells #[.slice A0 a.ints.length c0, .slice B0 a.fracs.length e0, .slice A1 b.ints.length c1, .slice B1 b.fracs.length e1, .slice A2 c.ints.length c2, .slice B2 c.fracs.length e2] 24)
  have hz1 : (W.alloc (.cells #[.slice A0 a.ints.length c0, .slice B0 a.fracs.length e0, .slice A1 b.ints.length c1, .slice B1 b.fracs.length e1, .slice A2 c.ints.length c2, .slice B2 c.fracs.length e2] 24)).heap.size = W.heap.size + 1 := by simp
  have H1 := Lib.hid hh
  have E1 := Lib.hid hE1
  have Z1 := Lib.hid hz1
  have EW := Lib.hid hEW
  have SZ := Lib.hid hsz
  have f0a := b0.cell0
  have f0b := b0.cell1
  have HB0 := Lib.hid b0
  have HN0 := Lib.hid (h0.ext hEW)
  have HR0 := Lib.hid r0
  have f1a := b1.cell0
  have f1b := b1.cell1
  have HB1 := Lib.hid b1
  have HN1 := Lib.hid (h1.ext hEW)
  have HR1 := Lib.hid r1
  have f2a := b2.cell0
  have f2b := b2.cell1
  have HB2 := Lib.hid b2
  have HN2 := Lib.hid (h2.ext hEW)
  have HR2 := Lib.hid r2
  clear hh hE1 hz1 hEW hsz b0 h0 r0 x0 y0 b1 h1 r1 x1 y1 b2 h2 r2 x2 y2
  have hfew : Calls Try.prog 19 #[.slice (some ⟨W.heap.size, 0, none⟩) 3 3] (W.alloc (.cells #[.slice A0 a.ints.length c0, .slice B0 a.fracs.length e0, .slice A1 b.ints.length c1, .slice B1 b.fracs.length e1, .slice A2 c.ints.length c2, .slice B2 c.fracs.length e2] 24)) fun e w' => e = .returned (.bool ([(a.ints.length, a.fracs.length), (b.ints.length, b.fracs.length), (c.ints.length, c.fracs.length)].all fewB)) ∧ Ext (W.alloc (.cells #[.slice A0 a.ints.length c0, .slice B0 a.fracs.length e0, .slice A1 b.ints.length c1, .slice B1 b.fracs.length e1, .slice A2 c.ints.length c2, .slice B2 c.fracs.length e2] 24)) w' := by
    refine few_any (W.alloc (.cells #[.slice A0 a.ints.length c0, .slice B0 a.fracs.length e0, .slice A1 b.ints.length c1, .slice B1 b.fracs.length e1, .slice A2 c.ints.length c2, .slice B2 c.fracs.length e2] 24)) W.heap.size [(a.ints.length, a.fracs.length), (b.ints.length, b.fracs.length), (c.ints.length, c.fracs.length)] 3 (by rw [Z1.out]; omega) ?_ (by simp)
    intro k x hk
    have hh := H1.out
    unfold World.cell?
    match k, hk with
    | 0, hk => injection hk with hk; subst hk; rw [hh]; exact ⟨_, _, _, _, rfl, rfl⟩
    | 1, hk => injection hk with hk; subst hk; rw [hh]; exact ⟨_, _, _, _, rfl, rfl⟩
    | 2, hk => injection hk with hk; subst hk; rw [hh]; exact ⟨_, _, _, _, rfl, rfl⟩
  have HFEW := Lib.hid hfew
  clear hfew H1
  cases hf : [(a.ints.length, a.fracs.length), (b.ints.length, b.fracs.length), (c.ints.length, c.fracs.length)].all fewB
  · rw [hf] at HFEW
    clear hf HB0 HN0 HR0 HB1 HN1 HR1 HB2 HN2 HR2
    go_wp2_with fail
    refine HFEW.out.mono ?_
    rintro e w1 ⟨rfl, hE1⟩
    have HE1 := Lib.hid (EW.out.trans (E1.out.trans hE1))
    clear hE1 HFEW
    go_wp2_with fail
    refine (alive_any _).mono ?_
    rintro e w2 ⟨rfl, hE2⟩
    have HE2 := Lib.hid (HE1.out.trans hE2)
    clear hE2
    go_wp2
    refine bodyPost_ret (results_tmp rfl _ _ _) rfl ⟨rfl, HE2.out⟩
  rw [hf] at HFEW
  have S0 : Hid (Sz 8 a) := Lib.hid (by simp [fewB] at hf; exact ⟨by omega, by omega⟩)
  have S1 : Hid (Sz 8 b) := Lib.hid (by simp [fewB] at hf; exact ⟨by omega, by omega⟩)
  have S2 : Hid (Sz 8 c) := Lib.hid (by simp [fewB] at hf; exact ⟨by omega, by omega⟩)
  clear hf
  go_wp2_with fail
  refine HFEW.out.mono ?_
  rintro e w1 ⟨rfl, hE1⟩
  have HB0 := Lib.hid (HB0.out.ext (E1.out.trans hE1))
  have HN0 := Lib.hid (HN0.out.ext (E1.out.trans hE1))
  have HB1 := Lib.hid (HB1.out.ext (E1.out.trans hE1))
  have HN1 := Lib.hid (HN1.out.ext (E1.out.trans hE1))
  have HB2 := Lib.hid (HB2.out.ext (E1.out.trans hE1))
  have HN2 := Lib.hid (HN2.out.ext (E1.out.trans hE1))
  have HEW := Lib.hid (EW.out.trans (E1.out.trans hE1))
  clear hE1 HFEW hW0 E1 Z1 EW f0a f0b f1a f1b f2a f2b
  go_wp2_with fail
  have hx := cmp_range a b
  have hy := cmp_range b c
  have hz := cmp_range a c
  refine chain_draw (n := 92) (l := [(3, .pointer (some ⟨w.heap.size, 0, none⟩)), (4, .pointer (some ⟨w.heap.size + 1, 0, none⟩)), (5, .pointer (some ⟨w.heap.size + 2, 0, none⟩))]) (by exact ⟨rfl, rfl, rfl, trivial⟩) (by rfl) (by kernel_rfl) rfl (by kernel_rfl) (by kernel_rfl) ?_
  refine rel_load (t := 3) (g := w.heap.size) (D := a) trivial (by kernel_rfl) (by kernel_rfl) (fun w h => ⟨_, _, (HB0.out.ext h).cell0, (HB0.out.ext h).cell1, HN0.out.ext h⟩) (by intro ρ w x y h1 h2 h3; go_simp) ?_
  refine rel_load (t := 4) (g := w.heap.size + 1) (D := b) trivial (by kernel_rfl) (by kernel_rfl) (fun w h => ⟨_, _, (HB1.out.ext h).cell0, (HB1.out.ext h).cell1, HN1.out.ext h⟩) (by intro ρ w x y h1 h2 h3; go_simp) ?_
  refine rel_call2 (Is (.int .i64 (cmpP a b))) (Is.stable _) trivial (f := 26) (fun u u' => #[u, u']) (t := 17) (t' := 18) (S := (Nms (a))) (S' := (Nms (b))) (by kernel_rfl) (by kernel_rfl) (by kernel_rfl) (by kernel_rfl) (by intro ρ w hc hf; go_simp) (fun w u u' hE hu hu' => conB (cmpP_any w u a hu u' b hu' (Sz.mono (S0.out) (by decide)) (Sz.mono (S1.out) (by decide)) HR0.out HR1.out) rfl) ?_
  refine rel_load (t := 4) (g := w.heap.size + 1) (D := b) trivial (by kernel_rfl) (by kernel_rfl) (fun w h => ⟨_, _, (HB1.out.ext h).cell0, (HB1.out.ext h).cell1, HN1.out.ext h⟩) (by intro ρ w x y h1 h2 h3; go_simp) ?_
  refine rel_load (t := 5) (g := w.heap.size + 2) (D := c) trivial (by kernel_rfl) (by kernel_rfl) (fun w h => ⟨_, _, (HB2.out.ext h).cell0, (HB2.out.ext h).cell1, HN2.out.ext h⟩) (by intro ρ w x y h1 h2 h3; go_simp) ?_
  refine rel_call2 (Is (.int .i64 (cmpP b c))) (Is.stable _) trivial (f := 26) (fun u u' => #[u, u']) (t := 20) (t' := 21) (S := (Nms (b))) (S' := (Nms (c))) (by kernel_rfl) (by kernel_rfl) (by kernel_rfl) (by kernel_rfl) (by intro ρ w hc hf; go_simp) (fun w u u' hE hu hu' => conB (cmpP_any w u b hu u' c hu' (Sz.mono (S1.out) (by decide)) (Sz.mono (S2.out) (by decide)) HR1.out HR2.out) rfl) ?_
  refine rel_load (t := 3) (g := w.heap.size) (D := a) trivial (by kernel_rfl) (by kernel_rfl) (fun w h => ⟨_, _, (HB0.out.ext h).cell0, (HB0.out.ext h).cell1, HN0.out.ext h⟩) (by intro ρ w x y h1 h2 h3; go_simp) ?_
  refine rel_load (t := 5) (g := w.heap.size + 2) (D := c) trivial (by kernel_rfl) (by kernel_rfl) (fun w h => ⟨_, _, (HB2.out.ext h).cell0, (HB2.out.ext h).cell1, HN2.out.ext h⟩) (by intro ρ w x y h1 h2 h3; go_simp) ?_
  refine rel_call2 (Is (.int .i64 (cmpP a c))) (Is.stable _) trivial (f := 26) (fun u u' => #[u, u']) (t := 23) (t' := 24) (S := (Nms (a))) (S' := (Nms (c))) (by kernel_rfl) (by kernel_rfl) (by kernel_rfl) (by kernel_rfl) (by intro ρ w hc hf; go_simp) (fun w u u' hE hu hu' => conB (cmpP_any w u a hu u' c hu' (Sz.mono (S0.out) (by decide)) (Sz.mono (S2.out) (by decide)) HR0.out HR2.out) rfl) ?_
  refine rel_assign (t := 19) (v := .int .i64 (cmpP a b)) rfl trivial (by kernel_rfl) (by kernel_rfl) ?_
  refine rel_assign (t := 22) (v := .int .i64 (cmpP b c)) rfl trivial (by kernel_rfl) (by kernel_rfl) ?_
  refine rel_assign (t := 25) (v := .int .i64 (cmpP a c)) rfl trivial (by kernel_rfl) (by kernel_rfl) ?_
  refine rel_end (env0 := envL [(3, .pointer (some ⟨w.heap.size, 0, none⟩)), (4, .pointer (some ⟨w.heap.size + 1, 0, none⟩)), (5, .pointer (some ⟨w.heap.size + 2, 0, none⟩))]) (n := 92) (fun t w' => Knows.env (l := [(3, .pointer (some ⟨w.heap.size, 0, none⟩)), (4, .pointer (some ⟨w.heap.size + 1, 0, none⟩)), (5, .pointer (some ⟨w.heap.size + 2, 0, none⟩))]) (by exact ⟨rfl, rfl, rfl, trivial⟩) t w') (by rfl) ?_
  intro a1 q1 hE1 hd1 HS1 henv1
  have HD1 : Hid (a1.defers = []) := Lib.hid (hd1.trans rfl)
  clear hd1
  have kn3 : a1.tmps.getD 3 undef = .pointer (some ⟨w.heap.size, 0, none⟩) := knows_of (henv1 3 (by decide)) (by kernel_rfl)
  have kn4 : a1.tmps.getD 4 undef = .pointer (some ⟨w.heap.size + 1, 0, none⟩) := knows_of (henv1 4 (by decide)) (by kernel_rfl)
  have kn5 : a1.tmps.getD 5 undef = .pointer (some ⟨w.heap.size + 2, 0, none⟩) := knows_of (henv1 5 (by decide)) (by kernel_rfl)
  have kn7 : a1.tmps.getD 7 undef = .int .i64 (cmpP a b) := knows_of (henv1 7 (by decide)) (by kernel_rfl)
  have kn8 : a1.tmps.getD 8 undef = .int .i64 (cmpP b c) := knows_of (henv1 8 (by decide)) (by kernel_rfl)
  have kn9 : a1.tmps.getD 9 undef = .int .i64 (cmpP a c) := knows_of (henv1 9 (by decide)) (by kernel_rfl)
  have HK1 : Knows a1 [(3, .pointer (some ⟨w.heap.size, 0, none⟩)), (4, .pointer (some ⟨w.heap.size + 1, 0, none⟩)), (5, .pointer (some ⟨w.heap.size + 2, 0, none⟩)), (7, .int .i64 (cmpP a b)), (8, .int .i64 (cmpP b c)), (9, .int .i64 (cmpP a c))] := ⟨kn3, kn4, kn5, kn7, kn8, kn9, trivial⟩
  clear kn3 kn4 kn5 kn7 kn8 kn9 henv1
  have HB0 := Lib.hid (HB0.out.ext hE1)
  have HN0 := Lib.hid (HN0.out.ext hE1)
  have HB1 := Lib.hid (HB1.out.ext hE1)
  have HN1 := Lib.hid (HN1.out.ext hE1)
  have HB2 := Lib.hid (HB2.out.ext hE1)
  have HN2 := Lib.hid (HN2.out.ext hE1)
  have HEW := Lib.hid (HEW.out.trans hE1)
  clear hE1
  apply_assumption
  refine seq_nxt (seq_nxt ?_)
  refine chain_draw (n := 92) (l := [(3, .pointer (some ⟨w.heap.size, 0, none⟩)), (4, .pointer (some ⟨w.heap.size + 1, 0, none⟩)), (5, .pointer (some ⟨w.heap.size + 2, 0, none⟩)), (7, .int .i64 (cmpP a b)), (8, .int .i64 (cmpP b c)), (9, .int .i64 (cmpP a c))]) HK1 HS1 (by kernel_rfl) rfl (by kernel_rfl) (by kernel_rfl) ?_
  refine rel_move (t := 7) (v := .int .i64 (cmpP a b)) rfl trivial (by kernel_rfl) (by kernel_rfl) ?_
  refine rel_load (t := 4) (g := w.heap.size + 1) (D := b) trivial (by kernel_rfl) (by kernel_rfl) (fun w h => ⟨_, _, (HB1.out.ext h).cell0, (HB1.out.ext h).cell1, HN1.out.ext h⟩) (by intro ρ w x y h1 h2 h3; go_simp) ?_
  refine rel_load (t := 3) (g := w.heap.size) (D := a) trivial (by kernel_rfl) (by kernel_rfl) (fun w h => ⟨_, _, (HB0.out.ext h).cell0, (HB0.out.ext h).cell1, HN0.out.ext h⟩) (by intro ρ w x y h1 h2 h3; go_simp) ?_
  refine rel_call2 (Is (.int .i64 ((-cmpP a b)))) (Is.stable _) trivial (f := 26) (fun u u' => #[u, u']) (t := 27) (t' := 28) (S := (Nms (b))) (S' := (Nms (a))) (by kernel_rfl) (by kernel_rfl) (by kernel_rfl) (by kernel_rfl) (by intro ρ w hc hf; go_simp) (fun w u u' hE hu hu' => conB (cmpP_any w u b hu u' a hu' (Sz.mono (S1.out) (by decide)) (Sz.mono (S0.out) (by decide)) HR1.out HR0.out) (congrArg (Value.int .i64) (cmp_swap a b))) ?_
  refine rel_val1 (t := 29) (v1 := .int .i64 ((-cmpP a b))) (v := .int .i64 (cmpP a b)) trivial (by kernel_rfl) (by kernel_rfl) (by intro ρ w hc h1; go_simp; first | exact wrap_sml (by omega) | omega) ?_
  refine rel_val2 (t := 26) (t' := 30) (v1 := .int .i64 (cmpP a b)) (v2 := .int .i64 (cmpP a b)) (v := .bool false) trivial (by kernel_rfl) (by kernel_rfl) (by kernel_rfl) (by kernel_rfl) (by intro ρ w hc h1 h2; go_simp) ?_
  refine rel_move (t := 31) (v := .bool false) rfl trivial (by kernel_rfl) (by kernel_rfl) ?_
  refine rel_load (t := 3) (g := w.heap.size) (D := a) ⟨32, by kernel_rfl, by kernel_rfl⟩ (by kernel_rfl) (by kernel_rfl) (fun w h => ⟨_, _, (HB0.out.ext h).cell0, (HB0.out.ext h).cell1, HN0.out.ext h⟩) (by intro ρ w x y h1 h2 h3; go_simp) ?_
  refine rel_load (t := 3) (g := w.heap.size) (D := a) ⟨32, by kernel_rfl, by kernel_rfl⟩ (by kernel_rfl) (by kernel_rfl) (fun w h => ⟨_, _, (HB0.out.ext h).cell0, (HB0.out.ext h).cell1, HN0.out.ext h⟩) (by intro ρ w x y h1 h2 h3; go_simp) ?_
  refine rel_call2 (Is (.int .i64 0)) (Is.stable _) ⟨32, by kernel_rfl, by kernel_rfl⟩ (f := 26) (fun u u' => #[u, u']) (t := 33) (t' := 34) (S := (Nms (a))) (S' := (Nms (a))) (by kernel_rfl) (by kernel_rfl) (by kernel_rfl) (by kernel_rfl) (by intro ρ w hc hf; go_simp) (fun w u u' hE hu hu' => conB (cmpP_any w u a hu u' a hu' (Sz.mono (S0.out) (by decide)) (Sz.mono (S0.out) (by decide)) HR0.out HR0.out) (congrArg (Value.int .i64) (cmp_self a))) ?_
  refine rel_val1 (t := 35) (v1 := .int .i64 0) (v := .bool false) ⟨32, by kernel_rfl, by kernel_rfl⟩ (by kernel_rfl) (by kernel_rfl) (by intro ρ w hc h1; go_simp) ?_
  refine rel_val2 (t := 32) (t' := 36) (v1 := .bool false) (v2 := .bool false) (v := .bool false) trivial (by kernel_rfl) (by kernel_rfl) (by kernel_rfl) (by kernel_rfl) (by intro ρ w hc h1 h2; go_simp) ?_
  refine rel_move (t := 37) (v := .bool false) rfl trivial (by kernel_rfl) (by kernel_rfl) ?_
  refine rel_move (t := 7) (v := .int .i64 (cmpP a b)) rfl ⟨38, by kernel_rfl, by kernel_rfl⟩ (by kernel_rfl) (by kernel_rfl) ?_
  refine rel_val1 (t := 39) (v1 := .int .i64 (cmpP a b)) (v := .bool false) ⟨38, by kernel_rfl, by kernel_rfl⟩ (by kernel_rfl) (by kernel_rfl) (by intro ρ w hc h1; go_simp; first | done | omega | (simp; omega)) ?_
  refine rel_val2 (t := 38) (t' := 40) (v1 := .bool false) (v2 := .bool false) (v := .bool false) trivial (by kernel_rfl) (by kernel_rfl) (by kernel_rfl) (by kernel_rfl) (by intro ρ w hc h1 h2; go_simp) ?_
  refine rel_move (t := 41) (v := .bool false) rfl trivial (by kernel_rfl) (by kernel_rfl) ?_
  refine rel_move (t := 7) (v := .int .i64 (cmpP a b)) rfl ⟨42, by kernel_rfl, by kernel_rfl⟩ (by kernel_rfl) (by kernel_rfl) ?_
  refine rel_val1 (t := 43) (v1 := .int .i64 (cmpP a b)) (v := .bool false) ⟨42, by kernel_rfl, by kernel_rfl⟩ (by kernel_rfl) (by kernel_rfl) (by intro ρ w hc h1; go_simp; first | done | omega | (simp; omega)) ?_
  refine rel_val2 (t := 42) (t' := 44) (v1 := .bool false) (v2 := .bool false) (v := .bool false) trivial (by kernel_rfl) (by kernel_rfl) (by kernel_rfl) (by kernel_rfl) (by intro ρ w hc h1 h2; go_simp) ?_
  refine rel_move (t := 45) (v := .bool false) rfl trivial (by kernel_rfl) (by kernel_rfl) ?_
  refine rel_move (t := 7) (v := .int .i64 (cmpP a b)) rfl ⟨46, by kernel_rfl, by kernel_rfl⟩ (by kernel_rfl) (by kernel_rfl) ?_
  refine rel_val1 (t := 47) (v1 := .int .i64 (cmpP a b)) (v := .bool (cmpP a b == 0)) ⟨46, by kernel_rfl, by kernel_rfl⟩ (by kernel_rfl) (by kernel_rfl) (by intro ρ w hc h1; go_simp) ?_
  refine rel_load (t := 3) (g := w.heap.size) (D := a) ⟨46, by kernel_rfl, by kernel_rfl⟩ (by kernel_rfl) (by kernel_rfl) (fun w h => ⟨_, _, (HB0.out.ext h).cell0, (HB0.out.ext h).cell1, HN0.out.ext h⟩) (by intro ρ w x y h1 h2 h3; go_simp) ?_
  refine rel_call1 (Nms (makeR a)) (Nms.stable _) ⟨46, by kernel_rfl, by kernel_rfl⟩ (f := 33) (fun u => #[u]) (t := 49) (S := (Nms (a))) (by kernel_rfl) (by kernel_rfl) (by intro ρ w hc hf; go_simp) (fun w u hE hu => makeP_any w u a hu (Sz.mono (S0.out) (by decide)) HR0.out) ?_
  refine rel_load (t := 4) (g := w.heap.size + 1) (D := b) ⟨46, by kernel_rfl, by kernel_rfl⟩ (by kernel_rfl) (by kernel_rfl) (fun w h => ⟨_, _, (HB1.out.ext h).cell0, (HB1.out.ext h).cell1, HN1.out.ext h⟩) (by intro ρ w x y h1 h2 h3; go_simp) ?_
  refine rel_call1 (Nms (makeR b)) (Nms.stable _) ⟨46, by kernel_rfl, by kernel_rfl⟩ (f := 33) (fun u => #[u]) (t := 51) (S := (Nms (b))) (by kernel_rfl) (by kernel_rfl) (by intro ρ w hc hf; go_simp) (fun w u hE hu => makeP_any w u b hu (Sz.mono (S1.out) (by decide)) HR1.out) ?_
  refine rel_call2 (Is (.bool (cmpP a b == 0))) (Is.stable _) ⟨46, by kernel_rfl, by kernel_rfl⟩ (f := 14) (fun u u' => #[u, u']) (t := 50) (t' := 52) (S := (Nms (makeR a))) (S' := (Nms (makeR b))) (by kernel_rfl) (by kernel_rfl) (by kernel_rfl) (by kernel_rfl) (by intro ρ w hc hf; go_simp) (fun w u u' hE hu hu' => conB (sameR_any w u (makeR a) hu u' (makeR b) hu' (Sz.mono (makeR_sz (S0.out)) (by decide)) (Sz.mono (makeR_sz (S1.out)) (by decide))) (congrArg Value.bool (l_cmp_same a b))) ?_
  refine rel_val2 (t := 48) (t' := 53) (v1 := .bool (cmpP a b == 0)) (v2 := .bool (cmpP a b == 0)) (v := .bool false) ⟨46, by kernel_rfl, by kernel_rfl⟩ (by kernel_rfl) (by kernel_rfl) (by kernel_rfl) (by kernel_rfl) (by intro ρ w hc h1 h2; go_simp) ?_
  refine rel_val2 (t := 46) (t' := 54) (v1 := .bool false) (v2 := .bool false) (v := .bool false) trivial (by kernel_rfl) (by kernel_rfl) (by kernel_rfl) (by kernel_rfl) (by intro ρ w hc h1 h2; go_simp) ?_
  refine rel_end (env0 := envL [(3, .pointer (some ⟨w.heap.size, 0, none⟩)), (4, .pointer (some ⟨w.heap.size + 1, 0, none⟩)), (5, .pointer (some ⟨w.heap.size + 2, 0, none⟩)), (7, .int .i64 (cmpP a b)), (8, .int .i64 (cmpP b c)), (9, .int .i64 (cmpP a c))]) (n := 92) (fun t w' => Knows.env (l := [(3, .pointer (some ⟨w.heap.size, 0, none⟩)), (4, .pointer (some ⟨w.heap.size + 1, 0, none⟩)), (5, .pointer (some ⟨w.heap.size + 2, 0, none⟩)), (7, .int .i64 (cmpP a b)), (8, .int .i64 (cmpP b c)), (9, .int .i64 (cmpP a c))]) HK1 t w') HS1 ?_
  intro a2 q2 hE2 hd2 HS2 henv2
  have HD2 : Hid (a2.defers = []) := Lib.hid (hd2.trans HD1.out)
  clear hd2
  have kn3 : a2.tmps.getD 3 undef = .pointer (some ⟨w.heap.size, 0, none⟩) := knows_of (henv2 3 (by decide)) (by kernel_rfl)
  have kn4 : a2.tmps.getD 4 undef = .pointer (some ⟨w.heap.size + 1, 0, none⟩) := knows_of (henv2 4 (by decide)) (by kernel_rfl)
  have kn5 : a2.tmps.getD 5 undef = .pointer (some ⟨w.heap.size + 2, 0, none⟩) := knows_of (henv2 5 (by decide)) (by kernel_rfl)
  have kn7 : a2.tmps.getD 7 undef = .int .i64 (cmpP a b) := knows_of (henv2 7 (by decide)) (by kernel_rfl)
  have kn8 : a2.tmps.getD 8 undef = .int .i64 (cmpP b c) := knows_of (henv2 8 (by decide)) (by kernel_rfl)
  have kn9 : a2.tmps.getD 9 undef = .int .i64 (cmpP a c) := knows_of (henv2 9 (by decide)) (by kernel_rfl)
  have kn55 : a2.tmps.getD 55 undef = .bool false := knows_of (henv2 55 (by decide)) (by kernel_rfl)
  have HK2 : Knows a2 [(3, .pointer (some ⟨w.heap.size, 0, none⟩)), (4, .pointer (some ⟨w.heap.size + 1, 0, none⟩)), (5, .pointer (some ⟨w.heap.size + 2, 0, none⟩)), (7, .int .i64 (cmpP a b)), (8, .int .i64 (cmpP b c)), (9, .int .i64 (cmpP a c)), (55, .bool false)] := ⟨kn3, kn4, kn5, kn7, kn8, kn9, kn55, trivial⟩
  clear kn3 kn4 kn5 kn7 kn8 kn9 kn55 henv2
  have HB0 := Lib.hid (HB0.out.ext hE2)
  have HN0 := Lib.hid (HN0.out.ext hE2)
  have HB1 := Lib.hid (HB1.out.ext hE2)
  have HN1 := Lib.hid (HN1.out.ext hE2)
  have HB2 := Lib.hid (HB2.out.ext hE2)
  have HN2 := Lib.hid (HN2.out.ext hE2)
  have HEW := Lib.hid (HEW.out.trans hE2)
  clear hE2
  refine nxt_normal ?_
  refine wp_cond_false (show a2.eval (.tmp 55) = .bool false from HK2.2.2.2.2.2.2.1) ?_
  refine wp_skip ?_
  refine nxt_normal ?_
  refine seq_nxt (seq_nxt ?_)
  refine wp_split (fun a' w' => Ext q2 w' ∧ a'.defers = [] ∧ a'.tmps.size = 92 ∧ Knows a' [(3, .pointer (some ⟨w.heap.size, 0, none⟩)), (4, .pointer (some ⟨w.heap.size + 1, 0, none⟩)), (5, .pointer (some ⟨w.heap.size + 2, 0, none⟩)), (77, .bool false)]) ?_ ?_
  · rcases cmp_ways a b c with k1 | ⟨k1, k2⟩ | ⟨k1, k2, k3⟩ | ⟨k1, k2, k3⟩
    · have HKc : Knows a2 [(3, .pointer (some ⟨w.heap.size, 0, none⟩)), (4, .pointer (some ⟨w.heap.size + 1, 0, none⟩)), (5, .pointer (some ⟨w.heap.size + 2, 0, none⟩)), (7, .int .i64 (cmpP a b)), (8, .int .i64 (cmpP b c)), (9, .int .i64 (cmpP a c)), (55, .bool false)] := ⟨HK2.1, HK2.2.1, HK2.2.2.1, HK2.2.2.2.1, HK2.2.2.2.2.1, HK2.2.2.2.2.2.1, HK2.2.2.2.2.2.2.1, trivial⟩
      refine chain_list (n := 92) (l := [(3, .pointer (some ⟨w.heap.size, 0, none⟩)), (4, .pointer (some ⟨w.heap.size + 1, 0, none⟩)), (5, .pointer (some ⟨w.heap.size + 2, 0, none⟩)), (7, .int .i64 (cmpP a b)), (8, .int .i64 (cmpP b c)), (9, .int .i64 (cmpP a c)), (55, .bool false)]) HKc HS2 rfl (by kernel_rfl) ?_
      refine rel_move (t := 7) (v := .int .i64 (cmpP a b)) rfl trivial (by kernel_rfl) (by kernel_rfl) ?_
      refine rel_val1 (t := 56) (v1 := .int .i64 (cmpP a b)) (v := .bool false) trivial (by kernel_rfl) (by kernel_rfl) (by intro ρ w hc h1; go_simp; first | done | omega | (simp; omega)) ?_
      refine rel_move (t := 57) (v := .bool false) rfl trivial (by kernel_rfl) (by kernel_rfl) ?_
      refine rel_skip ⟨58, by kernel_rfl, by kernel_rfl⟩ ?_
      refine rel_skip ⟨58, by kernel_rfl, by kernel_rfl⟩ ?_
      refine rel_val2 (t := 58) (t' := 60) (v1 := .bool false) (v2 := undef) (v := .bool false) trivial (by kernel_rfl) (by kernel_rfl) (by kernel_rfl) (by kernel_rfl) (by intro ρ w hc h1 h2; go_simp) ?_
      refine rel_move (t := 61) (v := .bool false) rfl trivial (by kernel_rfl) (by kernel_rfl) ?_
      refine rel_skip ⟨62, by kernel_rfl, by kernel_rfl⟩ ?_
      refine rel_skip ⟨62, by kernel_rfl, by kernel_rfl⟩ ?_
      refine rel_skip ⟨62, by kernel_rfl, by kernel_rfl⟩ ?_
      refine rel_skipu ⟨65, by kernel_rfl, by kernel_rfl⟩ ?_
      refine rel_skipu ⟨65, by kernel_rfl, by kernel_rfl⟩ ?_
      refine rel_skipu ⟨65, by kernel_rfl, by kernel_rfl⟩ ?_
      refine rel_skipu ⟨68, by kernel_rfl, by kernel_rfl⟩ ?_
      refine rel_skipu ⟨68, by kernel_rfl, by kernel_rfl⟩ ?_
      refine rel_skipu ⟨68, by kernel_rfl, by kernel_rfl⟩ ?_
      refine rel_skipu ⟨71, by kernel_rfl, by kernel_rfl⟩ ?_
      refine rel_skipu ⟨71, by kernel_rfl, by kernel_rfl⟩ ?_
      refine rel_skipu ⟨68, by kernel_rfl, by kernel_rfl⟩ ?_
      refine rel_skipu ⟨65, by kernel_rfl, by kernel_rfl⟩ ?_
      refine rel_skip ⟨62, by kernel_rfl, by kernel_rfl⟩ ?_
      refine rel_val2 (t := 62) (t' := 76) (v1 := .bool false) (v2 := undef) (v := .bool false) trivial (by kernel_rfl) (by kernel_rfl) (by kernel_rfl) (by kernel_rfl) (by intro ρ w hc h1 h2; go_simp) ?_
      refine rel_end (env0 := envL [(3, .pointer (some ⟨w.heap.size, 0, none⟩)), (4, .pointer (some ⟨w.heap.size + 1, 0, none⟩)), (5, .pointer (some ⟨w.heap.size + 2, 0, none⟩)), (7, .int .i64 (cmpP a b)), (8, .int .i64 (cmpP b c)), (9, .int .i64 (cmpP a c)), (55, .bool false)]) (n := 92) (fun t w' => Knows.env (l := [(3, .pointer (some ⟨w.heap.size, 0, none⟩)), (4, .pointer (some ⟨w.heap.size + 1, 0, none⟩)), (5, .pointer (some ⟨w.heap.size + 2, 0, none⟩)), (7, .int .i64 (cmpP a b)), (8, .int .i64 (cmpP b c)), (9, .int .i64 (cmpP a c)), (55, .bool false)]) HKc t w') HS2 ?_
      intro a' q' hE' hd' hS' henv'
      exact ⟨rfl, hE', hd'.trans HD2.out, hS', knows_of (henv' 3 (by decide)) (by kernel_rfl), knows_of (henv' 4 (by decide)) (by kernel_rfl), knows_of (henv' 5 (by decide)) (by kernel_rfl), knows_of (henv' 77 (by decide)) (by kernel_rfl), trivial⟩
    · have HKc : Knows a2 [(3, .pointer (some ⟨w.heap.size, 0, none⟩)), (4, .pointer (some ⟨w.heap.size + 1, 0, none⟩)), (5, .pointer (some ⟨w.heap.size + 2, 0, none⟩)), (7, .int .i64 (cmpP a b)), (8, .int .i64 (cmpP b c)), (9, .int .i64 (cmpP a c)), (55, .bool false)] := ⟨HK2.1, HK2.2.1, HK2.2.2.1, HK2.2.2.2.1, HK2.2.2.2.2.1, HK2.2.2.2.2.2.1, HK2.2.2.2.2.2.2.1, trivial⟩
      refine chain_list (n := 92) (l := [(3, .pointer (some ⟨w.heap.size, 0, none⟩)), (4, .pointer (some ⟨w.heap.size + 1, 0, none⟩)), (5, .pointer (some ⟨w.heap.size + 2, 0, none⟩)), (7, .int .i64 (cmpP a b)), (8, .int .i64 (cmpP b c)), (9, .int .i64 (cmpP a c)), (55, .bool false)]) HKc HS2 rfl (by kernel_rfl) ?_
      refine rel_move (t := 7) (v := .int .i64 (cmpP a b)) rfl trivial (by kernel_rfl) (by kernel_rfl) ?_
      refine rel_val1 (t := 56) (v1 := .int .i64 (cmpP a b)) (v := .bool true) trivial (by kernel_rfl) (by kernel_rfl) (by intro ρ w hc h1; go_simp; first | done | omega | (simp; omega)) ?_
      refine rel_move (t := 57) (v := .bool true) rfl trivial (by kernel_rfl) (by kernel_rfl) ?_
      refine rel_move (t := 8) (v := .int .i64 (cmpP b c)) rfl ⟨58, by kernel_rfl, by kernel_rfl⟩ (by kernel_rfl) (by kernel_rfl) ?_
      refine rel_val1 (t := 59) (v1 := .int .i64 (cmpP b c)) (v := .bool false) ⟨58, by kernel_rfl, by kernel_rfl⟩ (by kernel_rfl) (by kernel_rfl) (by intro ρ w hc h1; go_simp; first | done | omega | (simp; omega)) ?_
      refine rel_val2 (t := 58) (t' := 60) (v1 := .bool true) (v2 := .bool false) (v := .bool false) trivial (by kernel_rfl) (by kernel_rfl) (by kernel_rfl) (by kernel_rfl) (by intro ρ w hc h1 h2; go_simp) ?_
      refine rel_move (t := 61) (v := .bool false) rfl trivial (by kernel_rfl) (by kernel_rfl) ?_
      refine rel_skip ⟨62, by kernel_rfl, by kernel_rfl⟩ ?_
      refine rel_skip ⟨62, by kernel_rfl, by kernel_rfl⟩ ?_
      refine rel_skip ⟨62, by kernel_rfl, by kernel_rfl⟩ ?_
      refine rel_skipu ⟨65, by kernel_rfl, by kernel_rfl⟩ ?_
      refine rel_skipu ⟨65, by kernel_rfl, by kernel_rfl⟩ ?_
      refine rel_skipu ⟨65, by kernel_rfl, by kernel_rfl⟩ ?_
      refine rel_skipu ⟨68, by kernel_rfl, by kernel_rfl⟩ ?_
      refine rel_skipu ⟨68, by kernel_rfl, by kernel_rfl⟩ ?_
      refine rel_skipu ⟨68, by kernel_rfl, by kernel_rfl⟩ ?_
      refine rel_skipu ⟨71, by kernel_rfl, by kernel_rfl⟩ ?_
      refine rel_skipu ⟨71, by kernel_rfl, by kernel_rfl⟩ ?_
      refine rel_skipu ⟨68, by kernel_rfl, by kernel_rfl⟩ ?_
      refine rel_skipu ⟨65, by kernel_rfl, by kernel_rfl⟩ ?_
      refine rel_skip ⟨62, by kernel_rfl, by kernel_rfl⟩ ?_
      refine rel_val2 (t := 62) (t' := 76) (v1 := .bool false) (v2 := undef) (v := .bool false) trivial (by kernel_rfl) (by kernel_rfl) (by kernel_rfl) (by kernel_rfl) (by intro ρ w hc h1 h2; go_simp) ?_
      refine rel_end (env0 := envL [(3, .pointer (some ⟨w.heap.size, 0, none⟩)), (4, .pointer (some ⟨w.heap.size + 1, 0, none⟩)), (5, .pointer (some ⟨w.heap.size + 2, 0, none⟩)), (7, .int .i64 (cmpP a b)), (8, .int .i64 (cmpP b c)), (9, .int .i64 (cmpP a c)), (55, .bool false)]) (n := 92) (fun t w' => Knows.env (l := [(3, .pointer (some ⟨w.heap.size, 0, none⟩)), (4, .pointer (some ⟨w.heap.size + 1, 0, none⟩)), (5, .pointer (some ⟨w.heap.size + 2, 0, none⟩)), (7, .int .i64 (cmpP a b)), (8, .int .i64 (cmpP b c)), (9, .int .i64 (cmpP a c)), (55, .bool false)]) HKc t w') HS2 ?_
      intro a' q' hE' hd' hS' henv'
      exact ⟨rfl, hE', hd'.trans HD2.out, hS', knows_of (henv' 3 (by decide)) (by kernel_rfl), knows_of (henv' 4 (by decide)) (by kernel_rfl), knows_of (henv' 5 (by decide)) (by kernel_rfl), knows_of (henv' 77 (by decide)) (by kernel_rfl), trivial⟩
    · have HKc : Knows a2 [(3, .pointer (some ⟨w.heap.size, 0, none⟩)), (4, .pointer (some ⟨w.heap.size + 1, 0, none⟩)), (5, .pointer (some ⟨w.heap.size + 2, 0, none⟩)), (7, .int .i64 (cmpP a b)), (8, .int .i64 (cmpP b c)), (9, .int .i64 (cmpP a c)), (55, .bool false)] := ⟨HK2.1, HK2.2.1, HK2.2.2.1, HK2.2.2.2.1, HK2.2.2.2.2.1, HK2.2.2.2.2.2.1, HK2.2.2.2.2.2.2.1, trivial⟩
      refine chain_list (n := 92) (l := [(3, .pointer (some ⟨w.heap.size, 0, none⟩)), (4, .pointer (some ⟨w.heap.size + 1, 0, none⟩)), (5, .pointer (some ⟨w.heap.size + 2, 0, none⟩)), (7, .int .i64 (cmpP a b)), (8, .int .i64 (cmpP b c)), (9, .int .i64 (cmpP a c)), (55, .bool false)]) HKc HS2 rfl (by kernel_rfl) ?_
      refine rel_move (t := 7) (v := .int .i64 (cmpP a b)) rfl trivial (by kernel_rfl) (by kernel_rfl) ?_
      refine rel_val1 (t := 56) (v1 := .int .i64 (cmpP a b)) (v := .bool true) trivial (by kernel_rfl) (by kernel_rfl) (by intro ρ w hc h1; go_simp; first | done | omega | (simp; omega)) ?_
      refine rel_move (t := 57) (v := .bool true) rfl trivial (by kernel_rfl) (by kernel_rfl) ?_
      refine rel_move (t := 8) (v := .int .i64 (cmpP b c)) rfl ⟨58, by kernel_rfl, by kernel_rfl⟩ (by kernel_rfl) (by kernel_rfl) ?_
      refine rel_val1 (t := 59) (v1 := .int .i64 (cmpP b c)) (v := .bool true) ⟨58, by kernel_rfl, by kernel_rfl⟩ (by kernel_rfl) (by kernel_rfl) (by intro ρ w hc h1; go_simp; first | done | omega | (simp; omega)) ?_
      refine rel_val2 (t := 58) (t' := 60) (v1 := .bool true) (v2 := .bool true) (v := .bool true) trivial (by kernel_rfl) (by kernel_rfl) (by kernel_rfl) (by kernel_rfl) (by intro ρ w hc h1 h2; go_simp) ?_
      refine rel_move (t := 61) (v := .bool true) rfl trivial (by kernel_rfl) (by kernel_rfl) ?_
      refine rel_move (t := 9) (v := .int .i64 (cmpP a c)) rfl ⟨62, by kernel_rfl, by kernel_rfl⟩ (by kernel_rfl) (by kernel_rfl) ?_
      refine rel_val1 (t := 63) (v1 := .int .i64 (cmpP a c)) (v := .bool false) ⟨62, by kernel_rfl, by kernel_rfl⟩ (by kernel_rfl) (by kernel_rfl) (by intro ρ w hc h1; go_simp; first | done | omega | (simp; omega)) ?_
      refine rel_move (t := 64) (v := .bool false) rfl ⟨62, by kernel_rfl, by kernel_rfl⟩ (by kernel_rfl) (by kernel_rfl) ?_
      refine rel_move (t := 9) (v := .int .i64 (cmpP a c)) rfl ⟨65, by kernel_rfl, by kernel_rfl⟩ (by kernel_rfl) (by kernel_rfl) ?_
      refine rel_val1 (t := 66) (v1 := .int .i64 (cmpP a c)) (v := .bool false) ⟨65, by kernel_rfl, by kernel_rfl⟩ (by kernel_rfl) (by kernel_rfl) (by intro ρ w hc h1; go_simp; first | done | omega | (simp; omega)) ?_
      refine rel_move (t := 67) (v := .bool false) rfl ⟨65, by kernel_rfl, by kernel_rfl⟩ (by kernel_rfl) (by kernel_rfl) ?_
      refine rel_skip ⟨68, by kernel_rfl, by kernel_rfl⟩ ?_
      refine rel_skip ⟨68, by kernel_rfl, by kernel_rfl⟩ ?_
      refine rel_skip ⟨68, by kernel_rfl, by kernel_rfl⟩ ?_
      refine rel_skipu ⟨71, by kernel_rfl, by kernel_rfl⟩ ?_
      refine rel_skipu ⟨71, by kernel_rfl, by kernel_rfl⟩ ?_
      refine rel_skip ⟨68, by kernel_rfl, by kernel_rfl⟩ ?_
      refine rel_val2 (t := 68) (t' := 74) (v1 := .bool false) (v2 := undef) (v := .bool false) ⟨65, by kernel_rfl, by kernel_rfl⟩ (by kernel_rfl) (by kernel_rfl) (by kernel_rfl) (by kernel_rfl) (by intro ρ w hc h1 h2; go_simp) ?_
      refine rel_val2 (t := 65) (t' := 75) (v1 := .bool false) (v2 := .bool false) (v := .bool false) ⟨62, by kernel_rfl, by kernel_rfl⟩ (by kernel_rfl) (by kernel_rfl) (by kernel_rfl) (by kernel_rfl) (by intro ρ w hc h1 h2; go_simp) ?_
      refine rel_val2 (t := 62) (t' := 76) (v1 := .bool true) (v2 := .bool false) (v := .bool false) trivial (by kernel_rfl) (by kernel_rfl) (by kernel_rfl) (by kernel_rfl) (by intro ρ w hc h1 h2; go_simp) ?_
      refine rel_end (env0 := envL [(3, .pointer (some ⟨w.heap.size, 0, none⟩)), (4, .pointer (some ⟨w.heap.size + 1, 0, none⟩)), (5, .pointer (some ⟨w.heap.size + 2, 0, none⟩)), (7, .int .i64 (cmpP a b)), (8, .int .i64 (cmpP b c)), (9, .int .i64 (cmpP a c)), (55, .bool false)]) (n := 92) (fun t w' => Knows.env (l := [(3, .pointer (some ⟨w.heap.size, 0, none⟩)), (4, .pointer (some ⟨w.heap.size + 1, 0, none⟩)), (5, .pointer (some ⟨w.heap.size + 2, 0, none⟩)), (7, .int .i64 (cmpP a b)), (8, .int .i64 (cmpP b c)), (9, .int .i64 (cmpP a c)), (55, .bool false)]) HKc t w') HS2 ?_
      intro a' q' hE' hd' hS' henv'
      exact ⟨rfl, hE', hd'.trans HD2.out, hS', knows_of (henv' 3 (by decide)) (by kernel_rfl), knows_of (henv' 4 (by decide)) (by kernel_rfl), knows_of (henv' 5 (by decide)) (by kernel_rfl), knows_of (henv' 77 (by decide)) (by kernel_rfl), trivial⟩
    · have HKc : Knows a2 [(3, .pointer (some ⟨w.heap.size, 0, none⟩)), (4, .pointer (some ⟨w.heap.size + 1, 0, none⟩)), (5, .pointer (some ⟨w.heap.size + 2, 0, none⟩)), (7, .int .i64 (cmpP a b)), (8, .int .i64 (cmpP b c)), (9, .int .i64 (cmpP a c)), (55, .bool false)] := ⟨HK2.1, HK2.2.1, HK2.2.2.1, HK2.2.2.2.1, HK2.2.2.2.2.1, HK2.2.2.2.2.2.1, HK2.2.2.2.2.2.2.1, trivial⟩
      refine chain_list (n := 92) (l := [(3, .pointer (some ⟨w.heap.size, 0, none⟩)), (4, .pointer (some ⟨w.heap.size + 1, 0, none⟩)), (5, .pointer (some ⟨w.heap.size + 2, 0, none⟩)), (7, .int .i64 (cmpP a b)), (8, .int .i64 (cmpP b c)), (9, .int .i64 (cmpP a c)), (55, .bool false)]) HKc HS2 rfl (by kernel_rfl) ?_
      refine rel_move (t := 7) (v := .int .i64 (cmpP a b)) rfl trivial (by kernel_rfl) (by kernel_rfl) ?_
      refine rel_val1 (t := 56) (v1 := .int .i64 (cmpP a b)) (v := .bool true) trivial (by kernel_rfl) (by kernel_rfl) (by intro ρ w hc h1; go_simp; first | done | omega | (simp; omega)) ?_
      refine rel_move (t := 57) (v := .bool true) rfl trivial (by kernel_rfl) (by kernel_rfl) ?_
      refine rel_move (t := 8) (v := .int .i64 (cmpP b c)) rfl ⟨58, by kernel_rfl, by kernel_rfl⟩ (by kernel_rfl) (by kernel_rfl) ?_
      refine rel_val1 (t := 59) (v1 := .int .i64 (cmpP b c)) (v := .bool true) ⟨58, by kernel_rfl, by kernel_rfl⟩ (by kernel_rfl) (by kernel_rfl) (by intro ρ w hc h1; go_simp; first | done | omega | (simp; omega)) ?_
      refine rel_val2 (t := 58) (t' := 60) (v1 := .bool true) (v2 := .bool true) (v := .bool true) trivial (by kernel_rfl) (by kernel_rfl) (by kernel_rfl) (by kernel_rfl) (by intro ρ w hc h1 h2; go_simp) ?_
      refine rel_move (t := 61) (v := .bool true) rfl trivial (by kernel_rfl) (by kernel_rfl) ?_
      refine rel_move (t := 9) (v := .int .i64 (cmpP a c)) rfl ⟨62, by kernel_rfl, by kernel_rfl⟩ (by kernel_rfl) (by kernel_rfl) ?_
      refine rel_val1 (t := 63) (v1 := .int .i64 (cmpP a c)) (v := .bool false) ⟨62, by kernel_rfl, by kernel_rfl⟩ (by kernel_rfl) (by kernel_rfl) (by intro ρ w hc h1; go_simp; first | done | omega | (simp; omega)) ?_
      refine rel_move (t := 64) (v := .bool false) rfl ⟨62, by kernel_rfl, by kernel_rfl⟩ (by kernel_rfl) (by kernel_rfl) ?_
      refine rel_move (t := 9) (v := .int .i64 (cmpP a c)) rfl ⟨65, by kernel_rfl, by kernel_rfl⟩ (by kernel_rfl) (by kernel_rfl) ?_
      refine rel_val1 (t := 66) (v1 := .int .i64 (cmpP a c)) (v := .bool true) ⟨65, by kernel_rfl, by kernel_rfl⟩ (by kernel_rfl) (by kernel_rfl) (by intro ρ w hc h1; go_simp; first | done | omega | (simp; omega)) ?_
      refine rel_move (t := 67) (v := .bool true) rfl ⟨65, by kernel_rfl, by kernel_rfl⟩ (by kernel_rfl) (by kernel_rfl) ?_
      refine rel_move (t := 7) (v := .int .i64 (cmpP a b)) rfl ⟨68, by kernel_rfl, by kernel_rfl⟩ (by kernel_rfl) (by kernel_rfl) ?_
      refine rel_val1 (t := 69) (v1 := .int .i64 (cmpP a b)) (v := .bool false) ⟨68, by kernel_rfl, by kernel_rfl⟩ (by kernel_rfl) (by kernel_rfl) (by intro ρ w hc h1; go_simp; first | done | omega | (simp; omega)) ?_
      refine rel_move (t := 70) (v := .bool false) rfl ⟨68, by kernel_rfl, by kernel_rfl⟩ (by kernel_rfl) (by kernel_rfl) ?_
      refine rel_move (t := 8) (v := .int .i64 (cmpP b c)) rfl ⟨71, by kernel_rfl, by kernel_rfl⟩ (by kernel_rfl) (by kernel_rfl) ?_
      refine rel_val1 (t := 72) (v1 := .int .i64 (cmpP b c)) (v := .bool false) ⟨71, by kernel_rfl, by kernel_rfl⟩ (by kernel_rfl) (by kernel_rfl) (by intro ρ w hc h1; go_simp; first | done | omega | (simp; omega)) ?_
      refine rel_val2 (t := 71) (t' := 73) (v1 := .bool false) (v2 := .bool false) (v := .bool false) ⟨68, by kernel_rfl, by kernel_rfl⟩ (by kernel_rfl) (by kernel_rfl) (by kernel_rfl) (by kernel_rfl) (by intro ρ w hc h1 h2; go_simp) ?_
      refine rel_val2 (t := 68) (t' := 74) (v1 := .bool true) (v2 := .bool false) (v := .bool false) ⟨65, by kernel_rfl, by kernel_rfl⟩ (by kernel_rfl) (by kernel_rfl) (by kernel_rfl) (by kernel_rfl) (by intro ρ w hc h1 h2; go_simp) ?_
      refine rel_val2 (t := 65) (t' := 75) (v1 := .bool false) (v2 := .bool false) (v := .bool false) ⟨62, by kernel_rfl, by kernel_rfl⟩ (by kernel_rfl) (by kernel_rfl) (by kernel_rfl) (by kernel_rfl) (by intro ρ w hc h1 h2; go_simp) ?_
      refine rel_val2 (t := 62) (t' := 76) (v1 := .bool true) (v2 := .bool false) (v := .bool false) trivial (by kernel_rfl) (by kernel_rfl) (by kernel_rfl) (by kernel_rfl) (by intro ρ w hc h1 h2; go_simp) ?_
      refine rel_end (env0 := envL [(3, .pointer (some ⟨w.heap.size, 0, none⟩)), (4, .pointer (some ⟨w.heap.size + 1, 0, none⟩)), (5, .pointer (some ⟨w.heap.size + 2, 0, none⟩)), (7, .int .i64 (cmpP a b)), (8, .int .i64 (cmpP b c)), (9, .int .i64 (cmpP a c)), (55, .bool false)]) (n := 92) (fun t w' => Knows.env (l := [(3, .pointer (some ⟨w.heap.size, 0, none⟩)), (4, .pointer (some ⟨w.heap.size + 1, 0, none⟩)), (5, .pointer (some ⟨w.heap.size + 2, 0, none⟩)), (7, .int .i64 (cmpP a b)), (8, .int .i64 (cmpP b c)), (9, .int .i64 (cmpP a c)), (55, .bool false)]) HKc t w') HS2 ?_
      intro a' q' hE' hd' hS' henv'
      exact ⟨rfl, hE', hd'.trans HD2.out, hS', knows_of (henv' 3 (by decide)) (by kernel_rfl), knows_of (henv' 4 (by decide)) (by kernel_rfl), knows_of (henv' 5 (by decide)) (by kernel_rfl), knows_of (henv' 77 (by decide)) (by kernel_rfl), trivial⟩
  rintro a3 q3 ⟨hE3, hd3, HS3, HK3⟩
  have HD3 : Hid (a3.defers = []) := Lib.hid hd3
  clear hd3
  have HB0 := Lib.hid (HB0.out.ext hE3)
  have HN0 := Lib.hid (HN0.out.ext hE3)
  have HB1 := Lib.hid (HB1.out.ext hE3)
  have HN1 := Lib.hid (HN1.out.ext hE3)
  have HB2 := Lib.hid (HB2.out.ext hE3)
  have HN2 := Lib.hid (HN2.out.ext hE3)
  have HEW := Lib.hid (HEW.out.trans hE3)
  clear hE3
  refine nxt_normal ?_
  refine wp_cond_false (show a3.eval (.tmp 77) = .bool false from HK3.2.2.2.1) ?_
  refine wp_skip ?_
  refine nxt_normal ?_
  refine seq_nxt ?_
  refine chain_draw (n := 92) (l := [(3, .pointer (some ⟨w.heap.size, 0, none⟩)), (4, .pointer (some ⟨w.heap.size + 1, 0, none⟩)), (5, .pointer (some ⟨w.heap.size + 2, 0, none⟩)), (77, .bool false)]) HK3 HS3 (by kernel_rfl) rfl (by kernel_rfl) (by kernel_rfl) ?_
  refine rel_load (t := 3) (g := w.heap.size) (D := a) trivial (by kernel_rfl) (by kernel_rfl) (fun w h => ⟨_, _, (HB0.out.ext h).cell0, (HB0.out.ext h).cell1, HN0.out.ext h⟩) (by intro ρ w x y h1 h2 h3; go_simp) ?_
  refine rel_load (t := 3) (g := w.heap.size) (D := a) trivial (by kernel_rfl) (by kernel_rfl) (fun w h => ⟨_, _, (HB0.out.ext h).cell0, (HB0.out.ext h).cell1, HN0.out.ext h⟩) (by intro ρ w x y h1 h2 h3; go_simp) ?_
  refine rel_load (t := 4) (g := w.heap.size + 1) (D := b) trivial (by kernel_rfl) (by kernel_rfl) (fun w h => ⟨_, _, (HB1.out.ext h).cell0, (HB1.out.ext h).cell1, HN1.out.ext h⟩) (by intro ρ w x y h1 h2 h3; go_simp) ?_
  refine rel_call2 (Nms (orR a b)) (Nms.stable _) trivial (f := 28) (fun u u' => #[u, u']) (t := 79) (t' := 80) (S := (Nms (a))) (S' := (Nms (b))) (by kernel_rfl) (by kernel_rfl) (by kernel_rfl) (by kernel_rfl) (by intro ρ w hc hf; go_simp) (fun w u u' hE hu hu' => orP_any w u a hu u' b hu' (Sz.mono (S0.out) (by decide)) (Sz.mono (S1.out) (by decide)) HR0.out HR1.out) ?_
  refine rel_call2 (Is (.int .i64 (cmpP a (orR a b)))) (Is.stable _) trivial (f := 26) (fun u u' => #[u, u']) (t := 78) (t' := 81) (S := (Nms (a))) (S' := (Nms (orR a b))) (by kernel_rfl) (by kernel_rfl) (by kernel_rfl) (by kernel_rfl) (by intro ρ w hc hf; go_simp) (fun w u u' hE hu hu' => conB (cmpP_any w u a hu u' (orR a b) hu' (Sz.mono (S0.out) (by decide)) (Sz.mono (orR_sz (S0.out) (S1.out)) (by decide)) HR0.out (inr_can (orR_can _ _))) rfl) ?_
  refine rel_val1 (t := 82) (v1 := .int .i64 (cmpP a (orR a b))) (v := .bool (!subsetR b a)) trivial (by kernel_rfl) (by kernel_rfl) (by intro ρ w hc h1; go_simp; rw [cmp_or]) ?_
  refine rel_load (t := 4) (g := w.heap.size + 1) (D := b) trivial (by kernel_rfl) (by kernel_rfl) (fun w h => ⟨_, _, (HB1.out.ext h).cell0, (HB1.out.ext h).cell1, HN1.out.ext h⟩) (by intro ρ w x y h1 h2 h3; go_simp) ?_
  refine rel_load (t := 3) (g := w.heap.size) (D := a) trivial (by kernel_rfl) (by kernel_rfl) (fun w h => ⟨_, _, (HB0.out.ext h).cell0, (HB0.out.ext h).cell1, HN0.out.ext h⟩) (by intro ρ w x y h1 h2 h3; go_simp) ?_
  refine rel_call2 (Is (.bool (subsetR b a))) (Is.stable _) trivial (f := 46) (fun u u' => #[u, u']) (t := 84) (t' := 85) (S := (Nms (b))) (S' := (Nms (a))) (by kernel_rfl) (by kernel_rfl) (by kernel_rfl) (by kernel_rfl) (by intro ρ w hc hf; go_simp) (fun w u u' hE hu hu' => conB (subsetP_any w u b hu u' a hu' (Sz.mono (S1.out) (by decide)) (Sz.mono (S0.out) (by decide)) HR1.out HR0.out) (congrArg Value.bool (subsetP_eq _ _))) ?_
  refine rel_val1 (t := 86) (v1 := .bool (subsetR b a)) (v := .bool (!subsetR b a)) trivial (by kernel_rfl) (by kernel_rfl) (by intro ρ w hc h1; go_simp) ?_
  refine rel_val2 (t := 83) (t' := 87) (v1 := .bool (!subsetR b a)) (v2 := .bool (!subsetR b a)) (v := .bool true) trivial (by kernel_rfl) (by kernel_rfl) (by kernel_rfl) (by kernel_rfl) (by intro ρ w hc h1 h2; go_simp) ?_
  refine rel_move (t := 88) (v := .bool true) rfl trivial (by kernel_rfl) (by kernel_rfl) ?_
  refine rel_call0 (Is (.bool true)) (Is.stable _) ⟨89, by kernel_rfl, by kernel_rfl⟩ (f := 15) #[] (by intro ρ w hc hf; go_simp) (fun w hE => conB (alive_any w) rfl) ?_
  refine rel_val2 (t := 89) (t' := 90) (v1 := .bool true) (v2 := .bool true) (v := .bool true) trivial (by kernel_rfl) (by kernel_rfl) (by kernel_rfl) (by kernel_rfl) (by intro ρ w hc h1 h2; go_simp) ?_
  refine rel_assign (t := 91) (v := .bool true) rfl trivial (by kernel_rfl) (by kernel_rfl) ?_
  refine rel_end (env0 := envL [(3, .pointer (some ⟨w.heap.size, 0, none⟩)), (4, .pointer (some ⟨w.heap.size + 1, 0, none⟩)), (5, .pointer (some ⟨w.heap.size + 2, 0, none⟩)), (77, .bool false)]) (n := 92) (fun t w' => Knows.env (l := [(3, .pointer (some ⟨w.heap.size, 0, none⟩)), (4, .pointer (some ⟨w.heap.size + 1, 0, none⟩)), (5, .pointer (some ⟨w.heap.size + 2, 0, none⟩)), (77, .bool false)]) HK3 t w') HS3 ?_
  intro a4 q4 hE4 hd4 HS4 henv4
  have HD4 : Hid (a4.defers = []) := Lib.hid (hd4.trans HD3.out)
  clear hd4
  have kn6 : a4.tmps.getD 6 undef = .bool true := knows_of (henv4 6 (by decide)) (by kernel_rfl)
  have HK4 : Knows a4 [(6, .bool true)] := ⟨kn6, trivial⟩
  clear kn6 henv4
  have HB0 := Lib.hid (HB0.out.ext hE4)
  have HN0 := Lib.hid (HN0.out.ext hE4)
  have HB1 := Lib.hid (HB1.out.ext hE4)
  have HN1 := Lib.hid (HN1.out.ext hE4)
  have HB2 := Lib.hid (HB2.out.ext hE4)
  have HN2 := Lib.hid (HN2.out.ext hE4)
  have HEW := Lib.hid (HEW.out.trans hE4)
  clear hE4
  refine nxt_normal ?_
  refine wp_ret ?_
  refine bodyPost_ret (v := .bool true) ?_ HD4.out ⟨rfl, HEW.out⟩
  rw [results_tmp (t := 6) rfl, HK4.1]
end Go.Proofs.Ytaianhhmmacblaa
