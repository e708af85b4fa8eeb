import Derived.Test.YtaianhhmmacblaaAlive
import Derived.Test.YtaianhhmmacblaaOpen
import Derived.Test.YtaianhhmmacblaaRelKV
import Derived.Test.YtaianhhmmacblaaLaws0
/-
  The law NumsetLaws.
-/
namespace Go.Proofs.Ytaianhhmmacblaa
open Go Go.RowKit
attribute [local irreducible] relSeq relSeqV endE upd

set_option maxRecDepth 100000 in
set_option maxHeartbeats 4000000 in
theorem lawLaws (w : World) (v0 : Value) (a : Nm) (h0 : NmAt w v0 a) (r0 : InR a.fracs) (v1 : Value) (b : Nm) (h1 : NmAt w v1 b) (r1 : InR b.fracs) (v2 : Value) (c : Nm) (h2 : NmAt w v2 c) (r2 : InR c.fracs)  :
    Calls Try.prog 9 #[v0, v1, v2] w fun e w' => e = .returned (.bool true) ∧ Ext w w' := by
  have g0 := h0
  obtain ⟨A0, c0, B0, e0, rfl, x0, y0⟩ := g0
  have g1 := h1
  obtain ⟨A1, c1, B1, e1, rfl, x1, y1⟩ := g1
  have g2 := h2
  obtain ⟨A2, c2, B2, e2, rfl, x2, y2⟩ := g2
  have b0 : BlkN (((w.alloc (.cells #[.slice A0 a.ints.length c0, .slice B0 a.fracs.length e0] 24)).alloc (.cells #[.slice A1 b.ints.length c1, .slice B1 b.fracs.length e1] 24)).alloc (.cells #[.slice A2 c.ints.length c2, .slice B2 c.fracs.length e2] 24)) w.heap.size (.slice A0 a.ints.length c0) (.slice B0 a.fracs.length e0) := by simpa using ((BlkN.new w (.slice A0 a.ints.length c0) (.slice B0 a.fracs.length e0)).alloc _).alloc _
  have b1 : BlkN (((w.alloc (.cells #[.slice A0 a.ints.length c0, .slice B0 a.fracs.length e0] 24)).alloc (.cells #[.slice A1 b.ints.length c1, .slice B1 b.fracs.length e1] 24)).alloc (.cells #[.slice A2 c.ints.length c2, .slice B2 c.fracs.length e2] 24)) (w.heap.size + 1) (.slice A1 b.ints.length c1) (.slice B1 b.fracs.length e1) := by simpa using (BlkN.new (w.alloc (.cells #[.slice A0 a.ints.length c0, .slice B0 a.fracs.length e0] 24)) (.slice A1 b.ints.length c1) (.slice B1 b.fracs.length e1)).alloc _
  have b2 : BlkN (((w.alloc (.cells #[.slice A0 a.ints.length c0, .slice B0 a.fracs.length e0] 24)).alloc (.cells #[.slice A1 b.ints.length c1, .slice B1 b.fracs.length e1] 24)).alloc (.cells #[.slice A2 c.ints.length c2, .slice B2 c.fracs.length e2] 24)) (w.heap.size + 2) (.slice A2 c.ints.length c2) (.slice B2 c.fracs.length e2) := by simpa using BlkN.new ((w.alloc (.cells #[.slice A0 a.ints.length c0, .slice B0 a.fracs.length e0] 24)).alloc (.cells #[.slice A1 b.ints.length c1, .slice B1 b.fracs.length e1] 24)) (.slice A2 c.ints.length c2) (.slice B2 c.fracs.length e2)
  have hEW : Ext w (((w.alloc (.cells #[.slice A0 a.ints.length c0, .slice B0 a.fracs.length e0] 24)).alloc (.cells #[.slice A1 b.ints.length c1, .slice B1 b.fracs.length e1] 24)).alloc (.cells #[.slice A2 c.ints.length c2, .slice B2 c.fracs.length e2] 24)) := (((Ext.refl w).alloc _).alloc _).alloc _
  have hsz : (((w.alloc (.cells #[.slice A0 a.ints.length c0, .slice B0 a.fracs.length e0] 24)).alloc (.cells #[.slice A1 b.ints.length c1, .slice B1 b.fracs.length e1] 24)).alloc (.cells #[.slice A2 c.ints.length c2, .slice B2 c.fracs.length e2] 24)).heap.size = w.heap.size + 3 := by simp
  go_enter Try.func9, Try.ntmps9
  generalize hW0 : (((w.alloc (.cells #[.slice A0 a.ints.length c0, .slice B0 a.fracs.length e0] 24)).alloc (.cells #[.slice A1 b.ints.length c1, .slice B1 b.fracs.length e1] 24)).alloc (.cells #[.slice A2 c.ints.length c2, .slice B2 c.fracs.length e2] 24)) = W at *
  have hh := heap_alloc_new W (.cells #[.slice A0 a.ints.length c0, .slice B0 a.fracs.length e0, .slice A1 b.ints.length c1, .slice B1 b.fracs.length e1, .slice A2 c.ints.length c2, .slice B2 c.fracs.length e2] 24)
  have hE1 := (Ext.refl W).alloc (.cells #[.slice A0 a.ints.length c0, .slice B0 a.fracs.length e0, .slice A1 b.ints.length c1, .slice B1 b.fracs.length e1, .slice A2 c.ints.length c2, .slice B2 c.fracs.length e2] 24)
  have hz1 : (W.alloc (.cells #[.slice A0 a.ints.length c0, .slice B0 a.fracs.length e0, .slice A1 b.ints.length c1, .slice B1 b.fracs.length e1, .slice A2 c.ints.length c2, .slice B2 c.fracs.length e2] 24)).heap.size = W.heap.size + 1 := by simp
  have H1 := Lib.hid hh
  have E1 := Lib.hid hE1
  have Z1 := Lib.hid hz1
  have EW := Lib.hid hEW
  have SZ := Lib.hid hsz
  have f0a := b0.cell0
  have f0b := b0.cell1
  have HB0 := Lib.hid b0
  have HN0 := Lib.hid (h0.ext hEW)
  have HR0 := Lib.hid r0
  have f1a := b1.cell0
  have f1b := b1.cell1
  have HB1 := Lib.hid b1
  have HN1 := Lib.hid (h1.ext hEW)
  have HR1 := Lib.hid r1
  have f2a := b2.cell0
  have f2b := b2.cell1
  have HB2 := Lib.hid b2
  have HN2 := Lib.hid (h2.ext hEW)
  have HR2 := Lib.hid r2
  clear hh hE1 hz1 hEW hsz b0 h0 r0 x0 y0 b1 h1 r1 x1 y1 b2 h2 r2 x2 y2
  have hfew : Calls Try.prog 19 #[.slice (some ⟨W.heap.size, 0, none⟩) 3 3] (W.alloc (.cells #[.slice A0 a.ints.length c0, .slice B0 a.fracs.length e0, .slice A1 b.ints.length c1, .slice B1 b.fracs.length e1, .slice A2 c.ints.length c2, .slice B2 c.fracs.length e2] 24)) fun e w' => e = .returned (.bool ([(a.ints.length, a.fracs.length), (b.ints.length, b.fracs.length), (c.ints.length, c.fracs.length)].all fewB)) ∧ Ext (W.alloc (.cells #[.slice A0 a.ints.length c0, .slice B0 a.fracs.length e0, .slice A1 b.ints.length c1, .slice B1 b.fracs.length e1, .slice A2 c.ints.length c2, .slice B2 c.fracs.length e2] 24)) w' := by
    refine few_any (W.alloc (.cells #[.slice A0 a.ints.length c0, .slice B0 a.fracs.length e0, .slice A1 b.ints.length c1, .slice B1 b.fracs.length e1, .slice A2 c.ints.length c2, .slice B2 c.fracs.length e2] 24)) W.heap.size [(a.ints.length, a.fracs.length), (b.ints.length, b.fracs.length), (c.ints.length, c.fracs.length)] 3 (by rw [Z1.out]; omega) ?_ (by simp)
    intro k x hk
    have hh := H1.out
    unfold World.cell?
    match k, hk with
    | 0, hk => injection hk with hk; subst hk; rw [hh]; exact ⟨_, _, _, _, rfl, rfl⟩
    | 1, hk => injection hk with hk; subst hk; rw [hh]; exact ⟨_, _, _, _, rfl, rfl⟩
    | 2, hk => injection hk with hk; subst hk; rw [hh]; exact ⟨_, _, _, _, rfl, rfl⟩
  have HFEW := Lib.hid hfew
  clear hfew H1
  cases hf : [(a.ints.length, a.fracs.length), (b.ints.length, b.fracs.length), (c.ints.length, c.fracs.length)].all fewB
  · rw [hf] at HFEW
    clear hf HB0 HN0 HR0 HB1 HN1 HR1 HB2 HN2 HR2
    go_wp2_with fail
    refine HFEW.out.mono ?_
    rintro e w1 ⟨rfl, hE1⟩
    have HE1 := Lib.hid (EW.out.trans (E1.out.trans hE1))
    clear hE1 HFEW
    go_wp2_with fail
    refine (alive_any _).mono ?_
    rintro e w2 ⟨rfl, hE2⟩
    have HE2 := Lib.hid (HE1.out.trans hE2)
    clear hE2
    go_wp2
    refine bodyPost_ret (results_tmp rfl _ _ _) rfl ⟨rfl, HE2.out⟩
  rw [hf] at HFEW
  have S0 : Hid (Sz 8 a) := Lib.hid (by simp [fewB] at hf; exact ⟨by omega, by omega⟩)
  have S1 : Hid (Sz 8 b) := Lib.hid (by simp [fewB] at hf; exact ⟨by omega, by omega⟩)
  have S2 : Hid (Sz 8 c) := Lib.hid (by simp [fewB] at hf; exact ⟨by omega, by omega⟩)
  clear hf
  go_wp2_with fail
  refine HFEW.out.mono ?_
  rintro e w1 ⟨rfl, hE1⟩
  have HB0 := Lib.hid (HB0.out.ext (E1.out.trans hE1))
  have HN0 := Lib.hid (HN0.out.ext (E1.out.trans hE1))
  have HB1 := Lib.hid (HB1.out.ext (E1.out.trans hE1))
  have HN1 := Lib.hid (HN1.out.ext (E1.out.trans hE1))
  have HB2 := Lib.hid (HB2.out.ext (E1.out.trans hE1))
  have HN2 := Lib.hid (HN2.out.ext (E1.out.trans hE1))
  have HEW := Lib.hid (EW.out.trans (E1.out.trans hE1))
  clear hE1 HFEW hW0 E1 Z1 EW f0a f0b f1a f1b f2a f2b
  go_wp2_with fail
  refine chain_boxes [7, 8] (n := 126) (m := 8) (l := [(3, .pointer (some ⟨w.heap.size, 0, none⟩)), (4, .pointer (some ⟨w.heap.size + 1, 0, none⟩)), (5, .pointer (some ⟨w.heap.size + 2, 0, none⟩))]) (by exact ⟨rfl, rfl, rfl, trivial⟩) (by rfl) ?_ (by kernel_rfl) rfl rfl (by decide) (by kernel_rfl) (by kernel_rfl) ?_
  · intro s hs
    simp at hs
    rcases hs with rfl | rfl <;> rfl
  simp only [List.take_succ_cons, List.take_zero, List.drop_succ_cons, List.drop_zero]
  refine rel_loadV (t := 3) (g := w.heap.size) (D := a) (by kernel_rfl) trivial (by kernel_rfl) (by kernel_rfl) (fun w h => ⟨_, _, (HB0.out.ext h).cell0, (HB0.out.ext h).cell1, HN0.out.ext h⟩) (by intro ρ w x y h1 h2 h3; go_simp) ?_
  refine rel_loadV (t := 4) (g := w.heap.size + 1) (D := b) (by kernel_rfl) trivial (by kernel_rfl) (by kernel_rfl) (fun w h => ⟨_, _, (HB1.out.ext h).cell0, (HB1.out.ext h).cell1, HN1.out.ext h⟩) (by intro ρ w x y h1 h2 h3; go_simp) ?_
  refine rel_call2V (Nms (andR a b)) (Nms.stable _) (by kernel_rfl) trivial (f := 29) (fun u u' => #[u, u']) (t := 16) (t' := 17) (S1 := (Nms (a))) (S1' := (Nms (b))) (by kernel_rfl) (by kernel_rfl) (by kernel_rfl) (by kernel_rfl) (by intro ρ w hc hf; go_simp) (fun w u u' hE hu hu' => (andP_eq a b) ▸ andP_any w u a hu u' b hu' (Sz.mono (S0.out) (by decide)) (Sz.mono (S1.out) (by decide)) HR0.out HR1.out) ?_
  refine rel_loadV (t := 3) (g := w.heap.size) (D := a) (by kernel_rfl) trivial (by kernel_rfl) (by kernel_rfl) (fun w h => ⟨_, _, (HB0.out.ext h).cell0, (HB0.out.ext h).cell1, HN0.out.ext h⟩) (by intro ρ w x y h1 h2 h3; go_simp) ?_
  refine rel_loadV (t := 4) (g := w.heap.size + 1) (D := b) (by kernel_rfl) trivial (by kernel_rfl) (by kernel_rfl) (fun w h => ⟨_, _, (HB1.out.ext h).cell0, (HB1.out.ext h).cell1, HN1.out.ext h⟩) (by intro ρ w x y h1 h2 h3; go_simp) ?_
  refine rel_call2V (Nms (orR a b)) (Nms.stable _) (by kernel_rfl) trivial (f := 28) (fun u u' => #[u, u']) (t := 19) (t' := 20) (S1 := (Nms (a))) (S1' := (Nms (b))) (by kernel_rfl) (by kernel_rfl) (by kernel_rfl) (by kernel_rfl) (by intro ρ w hc hf; go_simp) (fun w u u' hE hu hu' => orP_any w u a hu u' b hu' (Sz.mono (S0.out) (by decide)) (Sz.mono (S1.out) (by decide)) HR0.out HR1.out) ?_
  refine rel_allocV rfl trivial (by intro ρ w; go_simp) ?_
  refine rel_allocV rfl trivial (by intro ρ w; go_simp) ?_
  refine rel_endV (env0 := envL [(3, .pointer (some ⟨w.heap.size, 0, none⟩)), (4, .pointer (some ⟨w.heap.size + 1, 0, none⟩)), (5, .pointer (some ⟨w.heap.size + 2, 0, none⟩))]) (n := 126) (fun t w' => Knows.env (l := [(3, .pointer (some ⟨w.heap.size, 0, none⟩)), (4, .pointer (some ⟨w.heap.size + 1, 0, none⟩)), (5, .pointer (some ⟨w.heap.size + 2, 0, none⟩))]) (by exact ⟨rfl, rfl, rfl, trivial⟩) t w') (by rfl) ?_
  intro a1 q1 hE1 hd1 HS1 henv1 hV1
  have HD1 : Hid (a1.defers = []) := Lib.hid (hd1.trans rfl)
  clear hd1
  obtain ⟨g7, ge7, gl7, gb7⟩ := (spec_of (S := BoxS w1) (henv1 7 (by decide)) (by kernel_rfl))
  obtain ⟨g8, ge8, gl8, gb8⟩ := (spec_of (S := BoxS w1) (henv1 8 (by decide)) (by kernel_rfl))
  obtain ⟨A18, c18, B18, e18, sv18, i18, f18⟩ := (spec_of (S := Nms (andR a b)) (henv1 18 (by decide)) (by kernel_rfl))
  have nm18 : NmAt q1 (.agg #[.slice A18 (andR a b).ints.length c18, .slice B18 (andR a b).fracs.length e18]) (andR a b) := ⟨_, _, _, _, rfl, i18, f18⟩
  clear i18 f18
  obtain ⟨A21, c21, B21, e21, sv21, i21, f21⟩ := (spec_of (S := Nms (orR a b)) (henv1 21 (by decide)) (by kernel_rfl))
  have nm21 : NmAt q1 (.agg #[.slice A21 (orR a b).ints.length c21, .slice B21 (orR a b).fracs.length e21]) (orR a b) := ⟨_, _, _, _, rfl, i21, f21⟩
  clear i21 f21
  have ne7_8 : g7 ≠ g8 := by
    intro e
    subst e
    exact (hV1 7 (by simp) 8 (by simp) (by decide)).2.2 g7 ge7 ge8
  have kn3 : a1.tmps.getD 3 undef = .pointer (some ⟨w.heap.size, 0, none⟩) := knows_of (henv1 3 (by decide)) (by kernel_rfl)
  have kn4 : a1.tmps.getD 4 undef = .pointer (some ⟨w.heap.size + 1, 0, none⟩) := knows_of (henv1 4 (by decide)) (by kernel_rfl)
  have kn5 : a1.tmps.getD 5 undef = .pointer (some ⟨w.heap.size + 2, 0, none⟩) := knows_of (henv1 5 (by decide)) (by kernel_rfl)
  have HK1 : Knows a1 [(3, .pointer (some ⟨w.heap.size, 0, none⟩)), (4, .pointer (some ⟨w.heap.size + 1, 0, none⟩)), (5, .pointer (some ⟨w.heap.size + 2, 0, none⟩)), (7, .pointer (some ⟨g7, 0, none⟩)), (8, .pointer (some ⟨g8, 0, none⟩))] := ⟨kn3, kn4, kn5, ge7, ge8, trivial⟩
  clear henv1 hV1 kn3 kn4 kn5
  have hEs := hE1
  refine wpList_store (t := 7) (s := 18) rfl rfl ge7 sv18 gb7 (by intro ρ w h1 h2 h3 h4 h5 h6; go_simp) (fun z1_0 st7 => ?_)
  have nm18 := st7.nm nm18
  have nm21 := st7.nm nm21
  have gb8 := st7.box gb8 ne7_8.symm
  have gb7 := st7.blk
  have hEs := hEs.trans' (st7.below _ gl7)
  refine wpList_store (t := 8) (s := 21) rfl rfl ge8 sv21 gb8 (by intro ρ w h1 h2 h3 h4 h5 h6; go_simp) (fun z1_1 st8 => ?_)
  have nm18 := st8.nm nm18
  have nm21 := st8.nm nm21
  have gb7 := st8.box gb7 ne7_8
  have gb8 := st8.blk
  have hEs := hEs.trans' (st8.below _ gl8)
  have HB0 := Lib.hid (HB0.out.ext hEs)
  have HN0 := Lib.hid (HN0.out.ext hEs)
  have HB1 := Lib.hid (HB1.out.ext hEs)
  have HN1 := Lib.hid (HN1.out.ext hEs)
  have HB2 := Lib.hid (HB2.out.ext hEs)
  have HN2 := Lib.hid (HN2.out.ext hEs)
  have HEW := Lib.hid (HEW.out.trans hEs)
  have HB_7 := Lib.hid gb7
  have HN_7 := Lib.hid nm18
  have HB_8 := Lib.hid gb8
  have HN_8 := Lib.hid nm21
  clear hE1 hEs ge7 gb7 sv18 nm18 st7 gl7 ge8 gb8 sv21 nm21 st8 gl8 ne7_8
  apply_assumption
  refine seq_nxt (seq_nxt ?_)
  refine chain_draw (n := 126) (l := [(3, .pointer (some ⟨w.heap.size, 0, none⟩)), (4, .pointer (some ⟨w.heap.size + 1, 0, none⟩)), (5, .pointer (some ⟨w.heap.size + 2, 0, none⟩)), (7, .pointer (some ⟨g7, 0, none⟩)), (8, .pointer (some ⟨g8, 0, none⟩))]) HK1 HS1 (by kernel_rfl) rfl (by kernel_rfl) (by kernel_rfl) ?_
  refine rel_load (t := 7) (g := g7) (D := andR a b) trivial (by kernel_rfl) (by kernel_rfl) (fun w h => ⟨_, _, (HB_7.out.ext h).cell0, (HB_7.out.ext h).cell1, HN_7.out.ext h⟩) (by intro ρ w x y h1 h2 h3; go_simp) ?_
  refine rel_load (t := 4) (g := w.heap.size + 1) (D := b) trivial (by kernel_rfl) (by kernel_rfl) (fun w h => ⟨_, _, (HB1.out.ext h).cell0, (HB1.out.ext h).cell1, HN1.out.ext h⟩) (by intro ρ w x y h1 h2 h3; go_simp) ?_
  refine rel_load (t := 3) (g := w.heap.size) (D := a) trivial (by kernel_rfl) (by kernel_rfl) (fun w h => ⟨_, _, (HB0.out.ext h).cell0, (HB0.out.ext h).cell1, HN0.out.ext h⟩) (by intro ρ w x y h1 h2 h3; go_simp) ?_
  refine rel_call2 (Nms (andR b a)) (Nms.stable _) trivial (f := 29) (fun u u' => #[u, u']) (t := 23) (t' := 24) (S := (Nms (b))) (S' := (Nms (a))) (by kernel_rfl) (by kernel_rfl) (by kernel_rfl) (by kernel_rfl) (by intro ρ w hc hf; go_simp) (fun w u u' hE hu hu' => (andP_eq b a) ▸ andP_any w u b hu u' a hu' (Sz.mono (S1.out) (by decide)) (Sz.mono (S0.out) (by decide)) HR1.out HR0.out) ?_
  refine rel_call2 (Is (.bool true)) (Is.stable _) trivial (f := 14) (fun u u' => #[u, u']) (t := 22) (t' := 25) (S := (Nms (andR a b))) (S' := (Nms (andR b a))) (by kernel_rfl) (by kernel_rfl) (by kernel_rfl) (by kernel_rfl) (by intro ρ w hc hf; go_simp) (fun w u u' hE hu hu' => conB (sameR_any w u (andR a b) hu u' (andR b a) hu' (Sz.mono (andR_sz (S0.out) (S1.out)) (by decide)) (Sz.mono (andR_sz (S1.out) (S0.out)) (by decide))) (congrArg Value.bool (l_and_comm _ _))) ?_
  refine rel_val1 (t := 26) (v1 := .bool true) (v := .bool false) trivial (by kernel_rfl) (by kernel_rfl) (by intro ρ w hc h1; go_simp) ?_
  refine rel_move (t := 27) (v := .bool false) rfl trivial (by kernel_rfl) (by kernel_rfl) ?_
  refine rel_load (t := 8) (g := g8) (D := orR a b) ⟨28, by kernel_rfl, by kernel_rfl⟩ (by kernel_rfl) (by kernel_rfl) (fun w h => ⟨_, _, (HB_8.out.ext h).cell0, (HB_8.out.ext h).cell1, HN_8.out.ext h⟩) (by intro ρ w x y h1 h2 h3; go_simp) ?_
  refine rel_load (t := 4) (g := w.heap.size + 1) (D := b) ⟨28, by kernel_rfl, by kernel_rfl⟩ (by kernel_rfl) (by kernel_rfl) (fun w h => ⟨_, _, (HB1.out.ext h).cell0, (HB1.out.ext h).cell1, HN1.out.ext h⟩) (by intro ρ w x y h1 h2 h3; go_simp) ?_
  refine rel_load (t := 3) (g := w.heap.size) (D := a) ⟨28, by kernel_rfl, by kernel_rfl⟩ (by kernel_rfl) (by kernel_rfl) (fun w h => ⟨_, _, (HB0.out.ext h).cell0, (HB0.out.ext h).cell1, HN0.out.ext h⟩) (by intro ρ w x y h1 h2 h3; go_simp) ?_
  refine rel_call2 (Nms (orR b a)) (Nms.stable _) ⟨28, by kernel_rfl, by kernel_rfl⟩ (f := 28) (fun u u' => #[u, u']) (t := 30) (t' := 31) (S := (Nms (b))) (S' := (Nms (a))) (by kernel_rfl) (by kernel_rfl) (by kernel_rfl) (by kernel_rfl) (by intro ρ w hc hf; go_simp) (fun w u u' hE hu hu' => orP_any w u b hu u' a hu' (Sz.mono (S1.out) (by decide)) (Sz.mono (S0.out) (by decide)) HR1.out HR0.out) ?_
  refine rel_call2 (Is (.bool true)) (Is.stable _) ⟨28, by kernel_rfl, by kernel_rfl⟩ (f := 14) (fun u u' => #[u, u']) (t := 29) (t' := 32) (S := (Nms (orR a b))) (S' := (Nms (orR b a))) (by kernel_rfl) (by kernel_rfl) (by kernel_rfl) (by kernel_rfl) (by intro ρ w hc hf; go_simp) (fun w u u' hE hu hu' => conB (sameR_any w u (orR a b) hu u' (orR b a) hu' (Sz.mono (orR_sz (S0.out) (S1.out)) (by decide)) (Sz.mono (orR_sz (S1.out) (S0.out)) (by decide))) (congrArg Value.bool (l_or_comm _ _))) ?_
  refine rel_val1 (t := 33) (v1 := .bool true) (v := .bool false) ⟨28, by kernel_rfl, by kernel_rfl⟩ (by kernel_rfl) (by kernel_rfl) (by intro ρ w hc h1; go_simp) ?_
  refine rel_val2 (t := 28) (t' := 34) (v1 := .bool false) (v2 := .bool false) (v := .bool false) trivial (by kernel_rfl) (by kernel_rfl) (by kernel_rfl) (by kernel_rfl) (by intro ρ w hc h1 h2; go_simp) ?_
  refine rel_move (t := 35) (v := .bool false) rfl trivial (by kernel_rfl) (by kernel_rfl) ?_
  refine rel_load (t := 3) (g := w.heap.size) (D := a) ⟨36, by kernel_rfl, by kernel_rfl⟩ (by kernel_rfl) (by kernel_rfl) (fun w h => ⟨_, _, (HB0.out.ext h).cell0, (HB0.out.ext h).cell1, HN0.out.ext h⟩) (by intro ρ w x y h1 h2 h3; go_simp) ?_
  refine rel_load (t := 4) (g := w.heap.size + 1) (D := b) ⟨36, by kernel_rfl, by kernel_rfl⟩ (by kernel_rfl) (by kernel_rfl) (fun w h => ⟨_, _, (HB1.out.ext h).cell0, (HB1.out.ext h).cell1, HN1.out.ext h⟩) (by intro ρ w x y h1 h2 h3; go_simp) ?_
  refine rel_load (t := 5) (g := w.heap.size + 2) (D := c) ⟨36, by kernel_rfl, by kernel_rfl⟩ (by kernel_rfl) (by kernel_rfl) (fun w h => ⟨_, _, (HB2.out.ext h).cell0, (HB2.out.ext h).cell1, HN2.out.ext h⟩) (by intro ρ w x y h1 h2 h3; go_simp) ?_
  refine rel_call2 (Nms (orR b c)) (Nms.stable _) ⟨36, by kernel_rfl, by kernel_rfl⟩ (f := 28) (fun u u' => #[u, u']) (t := 38) (t' := 39) (S := (Nms (b))) (S' := (Nms (c))) (by kernel_rfl) (by kernel_rfl) (by kernel_rfl) (by kernel_rfl) (by intro ρ w hc hf; go_simp) (fun w u u' hE hu hu' => orP_any w u b hu u' c hu' (Sz.mono (S1.out) (by decide)) (Sz.mono (S2.out) (by decide)) HR1.out HR2.out) ?_
  refine rel_call2 (Nms (andR a (orR b c))) (Nms.stable _) ⟨36, by kernel_rfl, by kernel_rfl⟩ (f := 29) (fun u u' => #[u, u']) (t := 37) (t' := 40) (S := (Nms (a))) (S' := (Nms (orR b c))) (by kernel_rfl) (by kernel_rfl) (by kernel_rfl) (by kernel_rfl) (by intro ρ w hc hf; go_simp) (fun w u u' hE hu hu' => (andP_eq a (orR b c)) ▸ andP_any w u a hu u' (orR b c) hu' (Sz.mono (S0.out) (by decide)) (Sz.mono (orR_sz (S1.out) (S2.out)) (by decide)) HR0.out (inr_can (orR_can _ _))) ?_
  refine rel_load (t := 7) (g := g7) (D := andR a b) ⟨36, by kernel_rfl, by kernel_rfl⟩ (by kernel_rfl) (by kernel_rfl) (fun w h => ⟨_, _, (HB_7.out.ext h).cell0, (HB_7.out.ext h).cell1, HN_7.out.ext h⟩) (by intro ρ w x y h1 h2 h3; go_simp) ?_
  refine rel_load (t := 3) (g := w.heap.size) (D := a) ⟨36, by kernel_rfl, by kernel_rfl⟩ (by kernel_rfl) (by kernel_rfl) (fun w h => ⟨_, _, (HB0.out.ext h).cell0, (HB0.out.ext h).cell1, HN0.out.ext h⟩) (by intro ρ w x y h1 h2 h3; go_simp) ?_
  refine rel_load (t := 5) (g := w.heap.size + 2) (D := c) ⟨36, by kernel_rfl, by kernel_rfl⟩ (by kernel_rfl) (by kernel_rfl) (fun w h => ⟨_, _, (HB2.out.ext h).cell0, (HB2.out.ext h).cell1, HN2.out.ext h⟩) (by intro ρ w x y h1 h2 h3; go_simp) ?_
  refine rel_call2 (Nms (andR a c)) (Nms.stable _) ⟨36, by kernel_rfl, by kernel_rfl⟩ (f := 29) (fun u u' => #[u, u']) (t := 43) (t' := 44) (S := (Nms (a))) (S' := (Nms (c))) (by kernel_rfl) (by kernel_rfl) (by kernel_rfl) (by kernel_rfl) (by intro ρ w hc hf; go_simp) (fun w u u' hE hu hu' => (andP_eq a c) ▸ andP_any w u a hu u' c hu' (Sz.mono (S0.out) (by decide)) (Sz.mono (S2.out) (by decide)) HR0.out HR2.out) ?_
  refine rel_call2 (Nms (orR (andR a b) (andR a c))) (Nms.stable _) ⟨36, by kernel_rfl, by kernel_rfl⟩ (f := 28) (fun u u' => #[u, u']) (t := 42) (t' := 45) (S := (Nms (andR a b))) (S' := (Nms (andR a c))) (by kernel_rfl) (by kernel_rfl) (by kernel_rfl) (by kernel_rfl) (by intro ρ w hc hf; go_simp) (fun w u u' hE hu hu' => orP_any w u (andR a b) hu u' (andR a c) hu' (Sz.mono (andR_sz (S0.out) (S1.out)) (by decide)) (Sz.mono (andR_sz (S0.out) (S2.out)) (by decide)) (inr_can (andR_can _ _)) (inr_can (andR_can _ _))) ?_
  refine rel_call2 (Is (.bool true)) (Is.stable _) ⟨36, by kernel_rfl, by kernel_rfl⟩ (f := 14) (fun u u' => #[u, u']) (t := 41) (t' := 46) (S := (Nms (andR a (orR b c)))) (S' := (Nms (orR (andR a b) (andR a c)))) (by kernel_rfl) (by kernel_rfl) (by kernel_rfl) (by kernel_rfl) (by intro ρ w hc hf; go_simp) (fun w u u' hE hu hu' => conB (sameR_any w u (andR a (orR b c)) hu u' (orR (andR a b) (andR a c)) hu' (Sz.mono (andR_sz (S0.out) (orR_sz (S1.out) (S2.out))) (by decide)) (Sz.mono (orR_sz (andR_sz (S0.out) (S1.out)) (andR_sz (S0.out) (S2.out))) (by decide))) (congrArg Value.bool (l_distr _ _ _))) ?_
  refine rel_val1 (t := 47) (v1 := .bool true) (v := .bool false) ⟨36, by kernel_rfl, by kernel_rfl⟩ (by kernel_rfl) (by kernel_rfl) (by intro ρ w hc h1; go_simp) ?_
  refine rel_val2 (t := 36) (t' := 48) (v1 := .bool false) (v2 := .bool false) (v := .bool false) trivial (by kernel_rfl) (by kernel_rfl) (by kernel_rfl) (by kernel_rfl) (by intro ρ w hc h1 h2; go_simp) ?_
  refine rel_move (t := 49) (v := .bool false) rfl trivial (by kernel_rfl) (by kernel_rfl) ?_
  refine rel_load (t := 8) (g := g8) (D := orR a b) ⟨50, by kernel_rfl, by kernel_rfl⟩ (by kernel_rfl) (by kernel_rfl) (fun w h => ⟨_, _, (HB_8.out.ext h).cell0, (HB_8.out.ext h).cell1, HN_8.out.ext h⟩) (by intro ρ w x y h1 h2 h3; go_simp) ?_
  refine rel_call1 (Nms (notR (orR a b))) (Nms.stable _) ⟨50, by kernel_rfl, by kernel_rfl⟩ (f := 30) (fun u => #[u]) (t := 51) (S := (Nms (orR a b))) (by kernel_rfl) (by kernel_rfl) (by intro ρ w hc hf; go_simp) (fun w u hE hu => (notP_eq (orR a b)) ▸ notP_any w u (orR a b) hu (Sz.mono (orR_sz (S0.out) (S1.out)) (by decide)) (inr_can (orR_can _ _))) ?_
  refine rel_load (t := 3) (g := w.heap.size) (D := a) ⟨50, by kernel_rfl, by kernel_rfl⟩ (by kernel_rfl) (by kernel_rfl) (fun w h => ⟨_, _, (HB0.out.ext h).cell0, (HB0.out.ext h).cell1, HN0.out.ext h⟩) (by intro ρ w x y h1 h2 h3; go_simp) ?_
  refine rel_call1 (Nms (notR a)) (Nms.stable _) ⟨50, by kernel_rfl, by kernel_rfl⟩ (f := 30) (fun u => #[u]) (t := 53) (S := (Nms (a))) (by kernel_rfl) (by kernel_rfl) (by intro ρ w hc hf; go_simp) (fun w u hE hu => (notP_eq a) ▸ notP_any w u a hu (Sz.mono (S0.out) (by decide)) HR0.out) ?_
  refine rel_load (t := 4) (g := w.heap.size + 1) (D := b) ⟨50, by kernel_rfl, by kernel_rfl⟩ (by kernel_rfl) (by kernel_rfl) (fun w h => ⟨_, _, (HB1.out.ext h).cell0, (HB1.out.ext h).cell1, HN1.out.ext h⟩) (by intro ρ w x y h1 h2 h3; go_simp) ?_
  refine rel_call1 (Nms (notR b)) (Nms.stable _) ⟨50, by kernel_rfl, by kernel_rfl⟩ (f := 30) (fun u => #[u]) (t := 55) (S := (Nms (b))) (by kernel_rfl) (by kernel_rfl) (by intro ρ w hc hf; go_simp) (fun w u hE hu => (notP_eq b) ▸ notP_any w u b hu (Sz.mono (S1.out) (by decide)) HR1.out) ?_
  refine rel_call2 (Nms (andR (notR a) (notR b))) (Nms.stable _) ⟨50, by kernel_rfl, by kernel_rfl⟩ (f := 29) (fun u u' => #[u, u']) (t := 54) (t' := 56) (S := (Nms (notR a))) (S' := (Nms (notR b))) (by kernel_rfl) (by kernel_rfl) (by kernel_rfl) (by kernel_rfl) (by intro ρ w hc hf; go_simp) (fun w u u' hE hu hu' => (andP_eq (notR a) (notR b)) ▸ andP_any w u (notR a) hu u' (notR b) hu' (Sz.mono (notR_sz (S0.out)) (by decide)) (Sz.mono (notR_sz (S1.out)) (by decide)) (inr_can (notR_can _)) (inr_can (notR_can _))) ?_
  refine rel_call2 (Is (.bool true)) (Is.stable _) ⟨50, by kernel_rfl, by kernel_rfl⟩ (f := 14) (fun u u' => #[u, u']) (t := 52) (t' := 57) (S := (Nms (notR (orR a b)))) (S' := (Nms (andR (notR a) (notR b)))) (by kernel_rfl) (by kernel_rfl) (by kernel_rfl) (by kernel_rfl) (by intro ρ w hc hf; go_simp) (fun w u u' hE hu hu' => conB (sameR_any w u (notR (orR a b)) hu u' (andR (notR a) (notR b)) hu' (Sz.mono (notR_sz (orR_sz (S0.out) (S1.out))) (by decide)) (Sz.mono (andR_sz (notR_sz (S0.out)) (notR_sz (S1.out))) (by decide))) (congrArg Value.bool (l_morgan _ _))) ?_
  refine rel_val1 (t := 58) (v1 := .bool true) (v := .bool false) ⟨50, by kernel_rfl, by kernel_rfl⟩ (by kernel_rfl) (by kernel_rfl) (by intro ρ w hc h1; go_simp) ?_
  refine rel_val2 (t := 50) (t' := 59) (v1 := .bool false) (v2 := .bool false) (v := .bool false) trivial (by kernel_rfl) (by kernel_rfl) (by kernel_rfl) (by kernel_rfl) (by intro ρ w hc h1 h2; go_simp) ?_
  refine rel_end (env0 := envL [(3, .pointer (some ⟨w.heap.size, 0, none⟩)), (4, .pointer (some ⟨w.heap.size + 1, 0, none⟩)), (5, .pointer (some ⟨w.heap.size + 2, 0, none⟩)), (7, .pointer (some ⟨g7, 0, none⟩)), (8, .pointer (some ⟨g8, 0, none⟩))]) (n := 126) (fun t w' => Knows.env (l := [(3, .pointer (some ⟨w.heap.size, 0, none⟩)), (4, .pointer (some ⟨w.heap.size + 1, 0, none⟩)), (5, .pointer (some ⟨w.heap.size + 2, 0, none⟩)), (7, .pointer (some ⟨g7, 0, none⟩)), (8, .pointer (some ⟨g8, 0, none⟩))]) HK1 t w') HS1 ?_
  intro a2 q2 hE2 hd2 HS2 henv2
  have HD2 : Hid (a2.defers = []) := Lib.hid (hd2.trans HD1.out)
  clear hd2
  have kn3 : a2.tmps.getD 3 undef = .pointer (some ⟨w.heap.size, 0, none⟩) := knows_of (henv2 3 (by decide)) (by kernel_rfl)
  have kn4 : a2.tmps.getD 4 undef = .pointer (some ⟨w.heap.size + 1, 0, none⟩) := knows_of (henv2 4 (by decide)) (by kernel_rfl)
  have kn5 : a2.tmps.getD 5 undef = .pointer (some ⟨w.heap.size + 2, 0, none⟩) := knows_of (henv2 5 (by decide)) (by kernel_rfl)
  have kn7 : a2.tmps.getD 7 undef = .pointer (some ⟨g7, 0, none⟩) := knows_of (henv2 7 (by decide)) (by kernel_rfl)
  have kn8 : a2.tmps.getD 8 undef = .pointer (some ⟨g8, 0, none⟩) := knows_of (henv2 8 (by decide)) (by kernel_rfl)
  have kn60 : a2.tmps.getD 60 undef = .bool false := knows_of (henv2 60 (by decide)) (by kernel_rfl)
  have HK2 : Knows a2 [(3, .pointer (some ⟨w.heap.size, 0, none⟩)), (4, .pointer (some ⟨w.heap.size + 1, 0, none⟩)), (5, .pointer (some ⟨w.heap.size + 2, 0, none⟩)), (7, .pointer (some ⟨g7, 0, none⟩)), (8, .pointer (some ⟨g8, 0, none⟩)), (60, .bool false)] := ⟨kn3, kn4, kn5, kn7, kn8, kn60, trivial⟩
  clear kn3 kn4 kn5 kn7 kn8 kn60 henv2
  have HB0 := Lib.hid (HB0.out.ext hE2)
  have HN0 := Lib.hid (HN0.out.ext hE2)
  have HB1 := Lib.hid (HB1.out.ext hE2)
  have HN1 := Lib.hid (HN1.out.ext hE2)
  have HB2 := Lib.hid (HB2.out.ext hE2)
  have HN2 := Lib.hid (HN2.out.ext hE2)
  have HB_7 := Lib.hid (HB_7.out.ext hE2)
  have HN_7 := Lib.hid (HN_7.out.ext hE2)
  have HB_8 := Lib.hid (HB_8.out.ext hE2)
  have HN_8 := Lib.hid (HN_8.out.ext hE2)
  have HEW := Lib.hid (HEW.out.trans hE2)
  clear hE2
  refine nxt_normal ?_
  refine wp_cond_false (show a2.eval (.tmp 60) = .bool false from HK2.2.2.2.2.2.1) ?_
  refine wp_skip ?_
  refine nxt_normal ?_
  refine seq_nxt (seq_nxt ?_)
  refine chain_draw (n := 126) (l := [(3, .pointer (some ⟨w.heap.size, 0, none⟩)), (4, .pointer (some ⟨w.heap.size + 1, 0, none⟩)), (5, .pointer (some ⟨w.heap.size + 2, 0, none⟩)), (7, .pointer (some ⟨g7, 0, none⟩)), (8, .pointer (some ⟨g8, 0, none⟩)), (60, .bool false)]) HK2 HS2 (by kernel_rfl) rfl (by kernel_rfl) (by kernel_rfl) ?_
  refine rel_load (t := 3) (g := w.heap.size) (D := a) trivial (by kernel_rfl) (by kernel_rfl) (fun w h => ⟨_, _, (HB0.out.ext h).cell0, (HB0.out.ext h).cell1, HN0.out.ext h⟩) (by intro ρ w x y h1 h2 h3; go_simp) ?_
  refine rel_load (t := 8) (g := g8) (D := orR a b) trivial (by kernel_rfl) (by kernel_rfl) (fun w h => ⟨_, _, (HB_8.out.ext h).cell0, (HB_8.out.ext h).cell1, HN_8.out.ext h⟩) (by intro ρ w x y h1 h2 h3; go_simp) ?_
  refine rel_call2 (Nms (andR a (orR a b))) (Nms.stable _) trivial (f := 29) (fun u u' => #[u, u']) (t := 61) (t' := 62) (S := (Nms (a))) (S' := (Nms (orR a b))) (by kernel_rfl) (by kernel_rfl) (by kernel_rfl) (by kernel_rfl) (by intro ρ w hc hf; go_simp) (fun w u u' hE hu hu' => (andP_eq a (orR a b)) ▸ andP_any w u a hu u' (orR a b) hu' (Sz.mono (S0.out) (by decide)) (Sz.mono (orR_sz (S0.out) (S1.out)) (by decide)) HR0.out (inr_can (orR_can _ _))) ?_
  refine rel_load (t := 3) (g := w.heap.size) (D := a) trivial (by kernel_rfl) (by kernel_rfl) (fun w h => ⟨_, _, (HB0.out.ext h).cell0, (HB0.out.ext h).cell1, HN0.out.ext h⟩) (by intro ρ w x y h1 h2 h3; go_simp) ?_
  refine rel_call1 (Nms (makeR a)) (Nms.stable _) trivial (f := 33) (fun u => #[u]) (t := 64) (S := (Nms (a))) (by kernel_rfl) (by kernel_rfl) (by intro ρ w hc hf; go_simp) (fun w u hE hu => makeP_any w u a hu (Sz.mono (S0.out) (by decide)) HR0.out) ?_
  refine rel_call2 (Is (.bool true)) (Is.stable _) trivial (f := 14) (fun u u' => #[u, u']) (t := 63) (t' := 65) (S := (Nms (andR a (orR a b)))) (S' := (Nms (makeR a))) (by kernel_rfl) (by kernel_rfl) (by kernel_rfl) (by kernel_rfl) (by intro ρ w hc hf; go_simp) (fun w u u' hE hu hu' => conB (sameR_any w u (andR a (orR a b)) hu u' (makeR a) hu' (Sz.mono (andR_sz (S0.out) (orR_sz (S0.out) (S1.out))) (by decide)) (Sz.mono (makeR_sz (S0.out)) (by decide))) (congrArg Value.bool (l_absorb1 _ _))) ?_
  refine rel_val1 (t := 66) (v1 := .bool true) (v := .bool false) trivial (by kernel_rfl) (by kernel_rfl) (by intro ρ w hc h1; go_simp) ?_
  refine rel_move (t := 67) (v := .bool false) rfl trivial (by kernel_rfl) (by kernel_rfl) ?_
  refine rel_load (t := 3) (g := w.heap.size) (D := a) ⟨68, by kernel_rfl, by kernel_rfl⟩ (by kernel_rfl) (by kernel_rfl) (fun w h => ⟨_, _, (HB0.out.ext h).cell0, (HB0.out.ext h).cell1, HN0.out.ext h⟩) (by intro ρ w x y h1 h2 h3; go_simp) ?_
  refine rel_load (t := 7) (g := g7) (D := andR a b) ⟨68, by kernel_rfl, by kernel_rfl⟩ (by kernel_rfl) (by kernel_rfl) (fun w h => ⟨_, _, (HB_7.out.ext h).cell0, (HB_7.out.ext h).cell1, HN_7.out.ext h⟩) (by intro ρ w x y h1 h2 h3; go_simp) ?_
  refine rel_call2 (Nms (orR a (andR a b))) (Nms.stable _) ⟨68, by kernel_rfl, by kernel_rfl⟩ (f := 28) (fun u u' => #[u, u']) (t := 69) (t' := 70) (S := (Nms (a))) (S' := (Nms (andR a b))) (by kernel_rfl) (by kernel_rfl) (by kernel_rfl) (by kernel_rfl) (by intro ρ w hc hf; go_simp) (fun w u u' hE hu hu' => orP_any w u a hu u' (andR a b) hu' (Sz.mono (S0.out) (by decide)) (Sz.mono (andR_sz (S0.out) (S1.out)) (by decide)) HR0.out (inr_can (andR_can _ _))) ?_
  refine rel_load (t := 3) (g := w.heap.size) (D := a) ⟨68, by kernel_rfl, by kernel_rfl⟩ (by kernel_rfl) (by kernel_rfl) (fun w h => ⟨_, _, (HB0.out.ext h).cell0, (HB0.out.ext h).cell1, HN0.out.ext h⟩) (by intro ρ w x y h1 h2 h3; go_simp) ?_
  refine rel_call1 (Nms (makeR a)) (Nms.stable _) ⟨68, by kernel_rfl, by kernel_rfl⟩ (f := 33) (fun u => #[u]) (t := 72) (S := (Nms (a))) (by kernel_rfl) (by kernel_rfl) (by intro ρ w hc hf; go_simp) (fun w u hE hu => makeP_any w u a hu (Sz.mono (S0.out) (by decide)) HR0.out) ?_
  refine rel_call2 (Is (.bool true)) (Is.stable _) ⟨68, by kernel_rfl, by kernel_rfl⟩ (f := 14) (fun u u' => #[u, u']) (t := 71) (t' := 73) (S := (Nms (orR a (andR a b)))) (S' := (Nms (makeR a))) (by kernel_rfl) (by kernel_rfl) (by kernel_rfl) (by kernel_rfl) (by intro ρ w hc hf; go_simp) (fun w u u' hE hu hu' => conB (sameR_any w u (orR a (andR a b)) hu u' (makeR a) hu' (Sz.mono (orR_sz (S0.out) (andR_sz (S0.out) (S1.out))) (by decide)) (Sz.mono (makeR_sz (S0.out)) (by decide))) (congrArg Value.bool (l_absorb2 _ _))) ?_
  refine rel_val1 (t := 74) (v1 := .bool true) (v := .bool false) ⟨68, by kernel_rfl, by kernel_rfl⟩ (by kernel_rfl) (by kernel_rfl) (by intro ρ w hc h1; go_simp) ?_
  refine rel_val2 (t := 68) (t' := 75) (v1 := .bool false) (v2 := .bool false) (v := .bool false) trivial (by kernel_rfl) (by kernel_rfl) (by kernel_rfl) (by kernel_rfl) (by intro ρ w hc h1 h2; go_simp) ?_
  refine rel_move (t := 76) (v := .bool false) rfl trivial (by kernel_rfl) (by kernel_rfl) ?_
  refine rel_load (t := 3) (g := w.heap.size) (D := a) ⟨77, by kernel_rfl, by kernel_rfl⟩ (by kernel_rfl) (by kernel_rfl) (fun w h => ⟨_, _, (HB0.out.ext h).cell0, (HB0.out.ext h).cell1, HN0.out.ext h⟩) (by intro ρ w x y h1 h2 h3; go_simp) ?_
  refine rel_call1 (Nms (notR a)) (Nms.stable _) ⟨77, by kernel_rfl, by kernel_rfl⟩ (f := 30) (fun u => #[u]) (t := 78) (S := (Nms (a))) (by kernel_rfl) (by kernel_rfl) (by intro ρ w hc hf; go_simp) (fun w u hE hu => (notP_eq a) ▸ notP_any w u a hu (Sz.mono (S0.out) (by decide)) HR0.out) ?_
  refine rel_call1 (Nms (notR (notR a))) (Nms.stable _) ⟨77, by kernel_rfl, by kernel_rfl⟩ (f := 30) (fun u => #[u]) (t := 79) (S := (Nms (notR a))) (by kernel_rfl) (by kernel_rfl) (by intro ρ w hc hf; go_simp) (fun w u hE hu => (notP_eq (notR a)) ▸ notP_any w u (notR a) hu (Sz.mono (notR_sz (S0.out)) (by decide)) (inr_can (notR_can _))) ?_
  refine rel_load (t := 3) (g := w.heap.size) (D := a) ⟨77, by kernel_rfl, by kernel_rfl⟩ (by kernel_rfl) (by kernel_rfl) (fun w h => ⟨_, _, (HB0.out.ext h).cell0, (HB0.out.ext h).cell1, HN0.out.ext h⟩) (by intro ρ w x y h1 h2 h3; go_simp) ?_
  refine rel_call1 (Nms (makeR a)) (Nms.stable _) ⟨77, by kernel_rfl, by kernel_rfl⟩ (f := 33) (fun u => #[u]) (t := 81) (S := (Nms (a))) (by kernel_rfl) (by kernel_rfl) (by intro ρ w hc hf; go_simp) (fun w u hE hu => makeP_any w u a hu (Sz.mono (S0.out) (by decide)) HR0.out) ?_
  refine rel_call2 (Is (.bool true)) (Is.stable _) ⟨77, by kernel_rfl, by kernel_rfl⟩ (f := 14) (fun u u' => #[u, u']) (t := 80) (t' := 82) (S := (Nms (notR (notR a)))) (S' := (Nms (makeR a))) (by kernel_rfl) (by kernel_rfl) (by kernel_rfl) (by kernel_rfl) (by intro ρ w hc hf; go_simp) (fun w u u' hE hu hu' => conB (sameR_any w u (notR (notR a)) hu u' (makeR a) hu' (Sz.mono (notR_sz (notR_sz (S0.out))) (by decide)) (Sz.mono (makeR_sz (S0.out)) (by decide))) (congrArg Value.bool (l_notnot _))) ?_
  refine rel_val1 (t := 83) (v1 := .bool true) (v := .bool false) ⟨77, by kernel_rfl, by kernel_rfl⟩ (by kernel_rfl) (by kernel_rfl) (by intro ρ w hc h1; go_simp) ?_
  refine rel_val2 (t := 77) (t' := 84) (v1 := .bool false) (v2 := .bool false) (v := .bool false) trivial (by kernel_rfl) (by kernel_rfl) (by kernel_rfl) (by kernel_rfl) (by intro ρ w hc h1 h2; go_simp) ?_
  refine rel_move (t := 85) (v := .bool false) rfl trivial (by kernel_rfl) (by kernel_rfl) ?_
  refine rel_load (t := 3) (g := w.heap.size) (D := a) ⟨86, by kernel_rfl, by kernel_rfl⟩ (by kernel_rfl) (by kernel_rfl) (fun w h => ⟨_, _, (HB0.out.ext h).cell0, (HB0.out.ext h).cell1, HN0.out.ext h⟩) (by intro ρ w x y h1 h2 h3; go_simp) ?_
  refine rel_load (t := 3) (g := w.heap.size) (D := a) ⟨86, by kernel_rfl, by kernel_rfl⟩ (by kernel_rfl) (by kernel_rfl) (fun w h => ⟨_, _, (HB0.out.ext h).cell0, (HB0.out.ext h).cell1, HN0.out.ext h⟩) (by intro ρ w x y h1 h2 h3; go_simp) ?_
  refine rel_call1 (Nms (notR a)) (Nms.stable _) ⟨86, by kernel_rfl, by kernel_rfl⟩ (f := 30) (fun u => #[u]) (t := 88) (S := (Nms (a))) (by kernel_rfl) (by kernel_rfl) (by intro ρ w hc hf; go_simp) (fun w u hE hu => (notP_eq a) ▸ notP_any w u a hu (Sz.mono (S0.out) (by decide)) HR0.out) ?_
  refine rel_call2 (Nms (orR a (notR a))) (Nms.stable _) ⟨86, by kernel_rfl, by kernel_rfl⟩ (f := 28) (fun u u' => #[u, u']) (t := 87) (t' := 89) (S := (Nms (a))) (S' := (Nms (notR a))) (by kernel_rfl) (by kernel_rfl) (by kernel_rfl) (by kernel_rfl) (by intro ρ w hc hf; go_simp) (fun w u u' hE hu hu' => orP_any w u a hu u' (notR a) hu' (Sz.mono (S0.out) (by decide)) (Sz.mono (notR_sz (S0.out)) (by decide)) HR0.out (inr_can (notR_can _))) ?_
  refine rel_call0 (Nms (allN)) (Nms.stable _) ⟨86, by kernel_rfl, by kernel_rfl⟩ (f := 31) #[] (by intro ρ w hc hf; go_simp) (fun w hE => allP_any w) ?_
  refine rel_call2 (Is (.bool true)) (Is.stable _) ⟨86, by kernel_rfl, by kernel_rfl⟩ (f := 14) (fun u u' => #[u, u']) (t := 90) (t' := 91) (S := (Nms (orR a (notR a)))) (S' := (Nms (allN))) (by kernel_rfl) (by kernel_rfl) (by kernel_rfl) (by kernel_rfl) (by intro ρ w hc hf; go_simp) (fun w u u' hE hu hu' => conB (sameR_any w u (orR a (notR a)) hu u' allN hu' (Sz.mono (orR_sz (S0.out) (notR_sz (S0.out))) (by decide)) (Sz.mono ((⟨by decide, by decide⟩ : Sz 1 allN)) (by decide))) (congrArg Value.bool (l_middle _))) ?_
  refine rel_val1 (t := 92) (v1 := .bool true) (v := .bool false) ⟨86, by kernel_rfl, by kernel_rfl⟩ (by kernel_rfl) (by kernel_rfl) (by intro ρ w hc h1; go_simp) ?_
  refine rel_val2 (t := 86) (t' := 93) (v1 := .bool false) (v2 := .bool false) (v := .bool false) trivial (by kernel_rfl) (by kernel_rfl) (by kernel_rfl) (by kernel_rfl) (by intro ρ w hc h1 h2; go_simp) ?_
  refine rel_end (env0 := envL [(3, .pointer (some ⟨w.heap.size, 0, none⟩)), (4, .pointer (some ⟨w.heap.size + 1, 0, none⟩)), (5, .pointer (some ⟨w.heap.size + 2, 0, none⟩)), (7, .pointer (some ⟨g7, 0, none⟩)), (8, .pointer (some ⟨g8, 0, none⟩)), (60, .bool false)]) (n := 126) (fun t w' => Knows.env (l := [(3, .pointer (some ⟨w.heap.size, 0, none⟩)), (4, .pointer (some ⟨w.heap.size + 1, 0, none⟩)), (5, .pointer (some ⟨w.heap.size + 2, 0, none⟩)), (7, .pointer (some ⟨g7, 0, none⟩)), (8, .pointer (some ⟨g8, 0, none⟩)), (60, .bool false)]) HK2 t w') HS2 ?_
  intro a3 q3 hE3 hd3 HS3 henv3
  have HD3 : Hid (a3.defers = []) := Lib.hid (hd3.trans HD2.out)
  clear hd3
  have kn3 : a3.tmps.getD 3 undef = .pointer (some ⟨w.heap.size, 0, none⟩) := knows_of (henv3 3 (by decide)) (by kernel_rfl)
  have kn4 : a3.tmps.getD 4 undef = .pointer (some ⟨w.heap.size + 1, 0, none⟩) := knows_of (henv3 4 (by decide)) (by kernel_rfl)
  have kn5 : a3.tmps.getD 5 undef = .pointer (some ⟨w.heap.size + 2, 0, none⟩) := knows_of (henv3 5 (by decide)) (by kernel_rfl)
  have kn7 : a3.tmps.getD 7 undef = .pointer (some ⟨g7, 0, none⟩) := knows_of (henv3 7 (by decide)) (by kernel_rfl)
  have kn8 : a3.tmps.getD 8 undef = .pointer (some ⟨g8, 0, none⟩) := knows_of (henv3 8 (by decide)) (by kernel_rfl)
  have kn94 : a3.tmps.getD 94 undef = .bool false := knows_of (henv3 94 (by decide)) (by kernel_rfl)
  have HK3 : Knows a3 [(3, .pointer (some ⟨w.heap.size, 0, none⟩)), (4, .pointer (some ⟨w.heap.size + 1, 0, none⟩)), (5, .pointer (some ⟨w.heap.size + 2, 0, none⟩)), (7, .pointer (some ⟨g7, 0, none⟩)), (8, .pointer (some ⟨g8, 0, none⟩)), (94, .bool false)] := ⟨kn3, kn4, kn5, kn7, kn8, kn94, trivial⟩
  clear kn3 kn4 kn5 kn7 kn8 kn94 henv3
  have HB0 := Lib.hid (HB0.out.ext hE3)
  have HN0 := Lib.hid (HN0.out.ext hE3)
  have HB1 := Lib.hid (HB1.out.ext hE3)
  have HN1 := Lib.hid (HN1.out.ext hE3)
  have HB2 := Lib.hid (HB2.out.ext hE3)
  have HN2 := Lib.hid (HN2.out.ext hE3)
  have HB_7 := Lib.hid (HB_7.out.ext hE3)
  have HN_7 := Lib.hid (HN_7.out.ext hE3)
  have HB_8 := Lib.hid (HB_8.out.ext hE3)
  have HN_8 := Lib.hid (HN_8.out.ext hE3)
  have HEW := Lib.hid (HEW.out.trans hE3)
  clear hE3
  refine nxt_normal ?_
  refine wp_cond_false (show a3.eval (.tmp 94) = .bool false from HK3.2.2.2.2.2.1) ?_
  refine wp_skip ?_
  refine nxt_normal ?_
  refine seq_nxt ?_
  refine chain_draw (n := 126) (l := [(3, .pointer (some ⟨w.heap.size, 0, none⟩)), (4, .pointer (some ⟨w.heap.size + 1, 0, none⟩)), (5, .pointer (some ⟨w.heap.size + 2, 0, none⟩)), (7, .pointer (some ⟨g7, 0, none⟩)), (8, .pointer (some ⟨g8, 0, none⟩)), (94, .bool false)]) HK3 HS3 (by kernel_rfl) rfl (by kernel_rfl) (by kernel_rfl) ?_
  refine rel_load (t := 3) (g := w.heap.size) (D := a) trivial (by kernel_rfl) (by kernel_rfl) (fun w h => ⟨_, _, (HB0.out.ext h).cell0, (HB0.out.ext h).cell1, HN0.out.ext h⟩) (by intro ρ w x y h1 h2 h3; go_simp) ?_
  refine rel_load (t := 4) (g := w.heap.size + 1) (D := b) trivial (by kernel_rfl) (by kernel_rfl) (fun w h => ⟨_, _, (HB1.out.ext h).cell0, (HB1.out.ext h).cell1, HN1.out.ext h⟩) (by intro ρ w x y h1 h2 h3; go_simp) ?_
  refine rel_call2 (Is (.bool (subsetR a b))) (Is.stable _) trivial (f := 46) (fun u u' => #[u, u']) (t := 95) (t' := 96) (S := (Nms (a))) (S' := (Nms (b))) (by kernel_rfl) (by kernel_rfl) (by kernel_rfl) (by kernel_rfl) (by intro ρ w hc hf; go_simp) (fun w u u' hE hu hu' => conB (subsetP_any w u a hu u' b hu' (Sz.mono (S0.out) (by decide)) (Sz.mono (S1.out) (by decide)) HR0.out HR1.out) (congrArg Value.bool (subsetP_eq _ _))) ?_
  refine rel_load (t := 7) (g := g7) (D := andR a b) trivial (by kernel_rfl) (by kernel_rfl) (fun w h => ⟨_, _, (HB_7.out.ext h).cell0, (HB_7.out.ext h).cell1, HN_7.out.ext h⟩) (by intro ρ w x y h1 h2 h3; go_simp) ?_
  refine rel_load (t := 3) (g := w.heap.size) (D := a) trivial (by kernel_rfl) (by kernel_rfl) (fun w h => ⟨_, _, (HB0.out.ext h).cell0, (HB0.out.ext h).cell1, HN0.out.ext h⟩) (by intro ρ w x y h1 h2 h3; go_simp) ?_
  refine rel_call1 (Nms (makeR a)) (Nms.stable _) trivial (f := 33) (fun u => #[u]) (t := 99) (S := (Nms (a))) (by kernel_rfl) (by kernel_rfl) (by intro ρ w hc hf; go_simp) (fun w u hE hu => makeP_any w u a hu (Sz.mono (S0.out) (by decide)) HR0.out) ?_
  refine rel_call2 (Is (.bool (subsetR a b))) (Is.stable _) trivial (f := 14) (fun u u' => #[u, u']) (t := 98) (t' := 100) (S := (Nms (andR a b))) (S' := (Nms (makeR a))) (by kernel_rfl) (by kernel_rfl) (by kernel_rfl) (by kernel_rfl) (by intro ρ w hc hf; go_simp) (fun w u u' hE hu hu' => conB (sameR_any w u (andR a b) hu u' (makeR a) hu' (Sz.mono (andR_sz (S0.out) (S1.out)) (by decide)) (Sz.mono (makeR_sz (S0.out)) (by decide))) (congrArg Value.bool (l_subset _ _))) ?_
  refine rel_val2 (t := 97) (t' := 101) (v1 := .bool (subsetR a b)) (v2 := .bool (subsetR a b)) (v := .bool true) trivial (by kernel_rfl) (by kernel_rfl) (by kernel_rfl) (by kernel_rfl) (by intro ρ w hc h1 h2; go_simp) ?_
  refine rel_move (t := 102) (v := .bool true) rfl trivial (by kernel_rfl) (by kernel_rfl) ?_
  refine rel_load (t := 7) (g := g7) (D := andR a b) ⟨103, by kernel_rfl, by kernel_rfl⟩ (by kernel_rfl) (by kernel_rfl) (fun w h => ⟨_, _, (HB_7.out.ext h).cell0, (HB_7.out.ext h).cell1, HN_7.out.ext h⟩) (by intro ρ w x y h1 h2 h3; go_simp) ?_
  refine rel_load (t := 3) (g := w.heap.size) (D := a) ⟨103, by kernel_rfl, by kernel_rfl⟩ (by kernel_rfl) (by kernel_rfl) (fun w h => ⟨_, _, (HB0.out.ext h).cell0, (HB0.out.ext h).cell1, HN0.out.ext h⟩) (by intro ρ w x y h1 h2 h3; go_simp) ?_
  refine rel_call2 (Is (.bool true)) (Is.stable _) ⟨103, by kernel_rfl, by kernel_rfl⟩ (f := 46) (fun u u' => #[u, u']) (t := 104) (t' := 105) (S := (Nms (andR a b))) (S' := (Nms (a))) (by kernel_rfl) (by kernel_rfl) (by kernel_rfl) (by kernel_rfl) (by intro ρ w hc hf; go_simp) (fun w u u' hE hu hu' => conB (subsetP_any w u (andR a b) hu u' a hu' (Sz.mono (andR_sz (S0.out) (S1.out)) (by decide)) (Sz.mono (S0.out) (by decide)) (inr_can (andR_can _ _)) HR0.out) (congrArg Value.bool (((subsetP_eq _ _)).trans (l_sub_and _ _)))) ?_
  refine rel_val2 (t := 103) (t' := 106) (v1 := .bool true) (v2 := .bool true) (v := .bool true) trivial (by kernel_rfl) (by kernel_rfl) (by kernel_rfl) (by kernel_rfl) (by intro ρ w hc h1 h2; go_simp) ?_
  refine rel_move (t := 107) (v := .bool true) rfl trivial (by kernel_rfl) (by kernel_rfl) ?_
  refine rel_load (t := 3) (g := w.heap.size) (D := a) ⟨108, by kernel_rfl, by kernel_rfl⟩ (by kernel_rfl) (by kernel_rfl) (fun w h => ⟨_, _, (HB0.out.ext h).cell0, (HB0.out.ext h).cell1, HN0.out.ext h⟩) (by intro ρ w x y h1 h2 h3; go_simp) ?_
  refine rel_load (t := 8) (g := g8) (D := orR a b) ⟨108, by kernel_rfl, by kernel_rfl⟩ (by kernel_rfl) (by kernel_rfl) (fun w h => ⟨_, _, (HB_8.out.ext h).cell0, (HB_8.out.ext h).cell1, HN_8.out.ext h⟩) (by intro ρ w x y h1 h2 h3; go_simp) ?_
  refine rel_call2 (Is (.bool true)) (Is.stable _) ⟨108, by kernel_rfl, by kernel_rfl⟩ (f := 46) (fun u u' => #[u, u']) (t := 109) (t' := 110) (S := (Nms (a))) (S' := (Nms (orR a b))) (by kernel_rfl) (by kernel_rfl) (by kernel_rfl) (by kernel_rfl) (by intro ρ w hc hf; go_simp) (fun w u u' hE hu hu' => conB (subsetP_any w u a hu u' (orR a b) hu' (Sz.mono (S0.out) (by decide)) (Sz.mono (orR_sz (S0.out) (S1.out)) (by decide)) HR0.out (inr_can (orR_can _ _))) (congrArg Value.bool (((subsetP_eq _ _)).trans (l_sub_or _ _)))) ?_
  refine rel_val2 (t := 108) (t' := 111) (v1 := .bool true) (v2 := .bool true) (v := .bool true) trivial (by kernel_rfl) (by kernel_rfl) (by kernel_rfl) (by kernel_rfl) (by intro ρ w hc h1 h2; go_simp) ?_
  refine rel_move (t := 112) (v := .bool true) rfl trivial (by kernel_rfl) (by kernel_rfl) ?_
  refine rel_load (t := 3) (g := w.heap.size) (D := a) ⟨113, by kernel_rfl, by kernel_rfl⟩ (by kernel_rfl) (by kernel_rfl) (fun w h => ⟨_, _, (HB0.out.ext h).cell0, (HB0.out.ext h).cell1, HN0.out.ext h⟩) (by intro ρ w x y h1 h2 h3; go_simp) ?_
  refine rel_load (t := 4) (g := w.heap.size + 1) (D := b) ⟨113, by kernel_rfl, by kernel_rfl⟩ (by kernel_rfl) (by kernel_rfl) (fun w h => ⟨_, _, (HB1.out.ext h).cell0, (HB1.out.ext h).cell1, HN1.out.ext h⟩) (by intro ρ w x y h1 h2 h3; go_simp) ?_
  refine rel_call2 (Nms (minusR a b)) (Nms.stable _) ⟨113, by kernel_rfl, by kernel_rfl⟩ (f := 44) (fun u u' => #[u, u']) (t := 114) (t' := 115) (S := (Nms (a))) (S' := (Nms (b))) (by kernel_rfl) (by kernel_rfl) (by kernel_rfl) (by kernel_rfl) (by intro ρ w hc hf; go_simp) (fun w u u' hE hu hu' => (minusP_eq a b) ▸ minusP_any w u a hu u' b hu' (Sz.mono (S0.out) (by decide)) (Sz.mono (S1.out) (by decide)) HR0.out HR1.out) ?_
  refine rel_load (t := 3) (g := w.heap.size) (D := a) ⟨113, by kernel_rfl, by kernel_rfl⟩ (by kernel_rfl) (by kernel_rfl) (fun w h => ⟨_, _, (HB0.out.ext h).cell0, (HB0.out.ext h).cell1, HN0.out.ext h⟩) (by intro ρ w x y h1 h2 h3; go_simp) ?_
  refine rel_load (t := 4) (g := w.heap.size + 1) (D := b) ⟨113, by kernel_rfl, by kernel_rfl⟩ (by kernel_rfl) (by kernel_rfl) (fun w h => ⟨_, _, (HB1.out.ext h).cell0, (HB1.out.ext h).cell1, HN1.out.ext h⟩) (by intro ρ w x y h1 h2 h3; go_simp) ?_
  refine rel_call1 (Nms (notR b)) (Nms.stable _) ⟨113, by kernel_rfl, by kernel_rfl⟩ (f := 30) (fun u => #[u]) (t := 118) (S := (Nms (b))) (by kernel_rfl) (by kernel_rfl) (by intro ρ w hc hf; go_simp) (fun w u hE hu => (notP_eq b) ▸ notP_any w u b hu (Sz.mono (S1.out) (by decide)) HR1.out) ?_
  refine rel_call2 (Nms (andR a (notR b))) (Nms.stable _) ⟨113, by kernel_rfl, by kernel_rfl⟩ (f := 29) (fun u u' => #[u, u']) (t := 117) (t' := 119) (S := (Nms (a))) (S' := (Nms (notR b))) (by kernel_rfl) (by kernel_rfl) (by kernel_rfl) (by kernel_rfl) (by intro ρ w hc hf; go_simp) (fun w u u' hE hu hu' => (andP_eq a (notR b)) ▸ andP_any w u a hu u' (notR b) hu' (Sz.mono (S0.out) (by decide)) (Sz.mono (notR_sz (S1.out)) (by decide)) HR0.out (inr_can (notR_can _))) ?_
  refine rel_call2 (Is (.bool true)) (Is.stable _) ⟨113, by kernel_rfl, by kernel_rfl⟩ (f := 14) (fun u u' => #[u, u']) (t := 116) (t' := 120) (S := (Nms (minusR a b))) (S' := (Nms (andR a (notR b)))) (by kernel_rfl) (by kernel_rfl) (by kernel_rfl) (by kernel_rfl) (by intro ρ w hc hf; go_simp) (fun w u u' hE hu hu' => conB (sameR_any w u (minusR a b) hu u' (andR a (notR b)) hu' (Sz.mono (minusR_sz (S0.out) (S1.out)) (by decide)) (Sz.mono (andR_sz (S0.out) (notR_sz (S1.out))) (by decide))) (congrArg Value.bool ((sameN_tt _ _).2 rfl))) ?_
  refine rel_val2 (t := 113) (t' := 121) (v1 := .bool true) (v2 := .bool true) (v := .bool true) trivial (by kernel_rfl) (by kernel_rfl) (by kernel_rfl) (by kernel_rfl) (by intro ρ w hc h1 h2; go_simp) ?_
  refine rel_move (t := 122) (v := .bool true) rfl trivial (by kernel_rfl) (by kernel_rfl) ?_
  refine rel_call0 (Is (.bool true)) (Is.stable _) ⟨123, by kernel_rfl, by kernel_rfl⟩ (f := 15) #[] (by intro ρ w hc hf; go_simp) (fun w hE => conB (alive_any w) rfl) ?_
  refine rel_val2 (t := 123) (t' := 124) (v1 := .bool true) (v2 := .bool true) (v := .bool true) trivial (by kernel_rfl) (by kernel_rfl) (by kernel_rfl) (by kernel_rfl) (by intro ρ w hc h1 h2; go_simp) ?_
  refine rel_assign (t := 125) (v := .bool true) rfl trivial (by kernel_rfl) (by kernel_rfl) ?_
  refine rel_end (env0 := envL [(3, .pointer (some ⟨w.heap.size, 0, none⟩)), (4, .pointer (some ⟨w.heap.size + 1, 0, none⟩)), (5, .pointer (some ⟨w.heap.size + 2, 0, none⟩)), (7, .pointer (some ⟨g7, 0, none⟩)), (8, .pointer (some ⟨g8, 0, none⟩)), (94, .bool false)]) (n := 126) (fun t w' => Knows.env (l := [(3, .pointer (some ⟨w.heap.size, 0, none⟩)), (4, .pointer (some ⟨w.heap.size + 1, 0, none⟩)), (5, .pointer (some ⟨w.heap.size + 2, 0, none⟩)), (7, .pointer (some ⟨g7, 0, none⟩)), (8, .pointer (some ⟨g8, 0, none⟩)), (94, .bool false)]) HK3 t w') HS3 ?_
  intro a4 q4 hE4 hd4 HS4 henv4
  have HD4 : Hid (a4.defers = []) := Lib.hid (hd4.trans HD3.out)
  clear hd4
  have kn6 : a4.tmps.getD 6 undef = .bool true := knows_of (henv4 6 (by decide)) (by kernel_rfl)
  have HK4 : Knows a4 [(6, .bool true)] := ⟨kn6, trivial⟩
  clear kn6 henv4
  have HB0 := Lib.hid (HB0.out.ext hE4)
  have HN0 := Lib.hid (HN0.out.ext hE4)
  have HB1 := Lib.hid (HB1.out.ext hE4)
  have HN1 := Lib.hid (HN1.out.ext hE4)
  have HB2 := Lib.hid (HB2.out.ext hE4)
  have HN2 := Lib.hid (HN2.out.ext hE4)
  have HB_7 := Lib.hid (HB_7.out.ext hE4)
  have HN_7 := Lib.hid (HN_7.out.ext hE4)
  have HB_8 := Lib.hid (HB_8.out.ext hE4)
  have HN_8 := Lib.hid (HN_8.out.ext hE4)
  have HEW := Lib.hid (HEW.out.trans hE4)
  clear hE4
  refine nxt_normal ?_
  refine wp_ret ?_
  refine bodyPost_ret (v := .bool true) ?_ HD4.out ⟨rfl, HEW.out⟩
  rw [results_tmp (t := 6) rfl, HK4.1]
end Go.Proofs.Ytaianhhmmacblaa
