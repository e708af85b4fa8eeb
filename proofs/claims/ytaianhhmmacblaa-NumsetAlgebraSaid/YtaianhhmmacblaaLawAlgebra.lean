import Derived.Test.YtaianhhmmacblaaAlive
import Derived.Test.YtaianhhmmacblaaOpen

/-
  The law NumsetAlgebra.
-/
namespace Go.Proofs.Ytaianhhmmacblaa
open Go.RowKit

set_option maxRecDepth 100000 in
set_option maxHeartbeats 4000000 in
theorem lawAlgebra (w : World) (v0 : Value) (a : Nm) (h0 : NmAt w v0 a) (r0 : InR a.fracs) (v1 : Value) (b : Nm) (h1 : NmAt w v1 b) (r1 : InR b.fracs)  :
    Calls Try.prog 8 #[v0, v1] w fun e w' => e = .returned (.bool true) ∧ Ext w w' := by
  have g0 := h0
  obtain ⟨A0, c0, B0, e0, rfl, x0, y0⟩ := g0
  have g1 := h1
  obtain ⟨A1, c1, B1, e1, rfl, x1, y1⟩ := g1
  have b0 : BlkN ((w.alloc (.cells #[.slice A0 a.ints.length c0, .slice B0 a.fracs.length e0] 24)).alloc (.cells #[.slice A1 b.ints.length c1, .slice B1 b.fracs.length e1] 24)) w.heap.size (.slice A0 a.ints.length c0) (.slice B0 a.fracs.length e0) := by simpa using (BlkN.new w (.slice A0 a.ints.length c0) (.slice B0 a.fracs.length e0)).alloc _
  have b1 : BlkN ((w.alloc (.cells #[.slice A0 a.ints.length c0, .slice B0 a.fracs.length e0] 24)).alloc (.cells #[.slice A1 b.ints.length c1, .slice B1 b.fracs.length e1] 24)) (w.heap.size + 1) (.slice A1 b.ints.length c1) (.slice B1 b.fracs.length e1) := by simpa using BlkN.new (w.alloc (.cells #[.slice A0 a.ints.length c0, .slice B0 a.fracs.length e0] 24)) (.slice A1 b.ints.length c1) (.slice B1 b.fracs.length e1)
  have hEW : Ext w ((w.alloc (.cells #[.slice A0 a.ints.length c0, .slice B0 a.fracs.length e0] 24)).alloc (.cells #[.slice A1 b.ints.length c1, .slice B1 b.fracs.length e1] 24)) := ((Ext.refl w).alloc _).alloc _
  have hsz : ((w.alloc (.cells #[.slice A0 a.ints.length c0, .slice B0 a.fracs.length e0] 24)).alloc (.cells #[.slice A1 b.ints.length c1, .slice B1 b.fracs.length e1] 24)).heap.size = w.heap.size + 2 := by simp
  go_enter Try.func8, Try.ntmps8
  generalize hW0 : ((w.alloc (.cells #[.slice A0 a.ints.length c0, .slice B0 a.fracs.length e0] 24)).alloc (.cells #[.slice A1 b.ints.length c1, .slice B1 b.fracs.length e1] 24)) = W at *
  have hh := heap_alloc_new W (.cells #[.slice A0 a.ints.length c0, .slice B0 a.fracs.length e0, .slice A1 b.ints.length c1, .slice B1 b.fracs.length e1] 24)
  have hE1 := (Ext.refl W).alloc (.cells #[.slice A0 a.ints.length c0, .slice B0 a.fracs.length e0, .slice A1 b.ints.length c1, .slice B1 b.fracs.length e1] 24)
  have hz1 : (W.alloc (.cells #[.slice A0 a.ints.length c0, .slice B0 a.fracs.length e0, .slice A1 b.ints.length c1, .slice B1 b.fracs.length e1] 24)).heap.size = W.heap.size + 1 := by simp
  have H1 := Lib.hid hh
  have E1 := Lib.hid hE1
  have Z1 := Lib.hid hz1
  have EW := Lib.hid hEW
  have SZ := Lib.hid hsz
  have f0a := b0.cell0
  have f0b := b0.cell1
  have HB0 := Lib.hid b0
  have HN0 := Lib.hid (h0.ext hEW)
  have HR0 := Lib.hid r0
  have f1a := b1.cell0
  have f1b := b1.cell1
  have HB1 := Lib.hid b1
  have HN1 := Lib.hid (h1.ext hEW)
  have HR1 := Lib.hid r1
  clear hh hE1 hz1 hEW hsz b0 h0 r0 x0 y0 b1 h1 r1 x1 y1
  have hfew : Calls Try.prog 19 #[.slice (some ⟨W.heap.size, 0, none⟩) 2 2] (W.alloc (.cells #[.slice A0 a.ints.length c0, .slice B0 a.fracs.length e0, .slice A1 b.ints.length c1, .slice B1 b.fracs.length e1] 24)) fun e w' => e = .returned (.bool ([(a.ints.length, a.fracs.length), (b.ints.length, b.fracs.length)].all fewB)) ∧ Ext (W.alloc (.cells #[.slice A0 a.ints.length c0, .slice B0 a.fracs.length e0, .slice A1 b.ints.length c1, .slice B1 b.fracs.length e1] 24)) w' := by
    refine few_any (W.alloc (.cells #[.slice A0 a.ints.length c0, .slice B0 a.fracs.length e0, .slice A1 b.ints.length c1, .slice B1 b.fracs.length e1] 24)) W.heap.size [(a.ints.length, a.fracs.length), (b.ints.length, b.fracs.length)] 2 (by rw [Z1.out]; omega) ?_ (by simp)
    intro k x hk
    have hh := H1.out
    unfold World.cell?
    match k, hk with
    | 0, hk => injection hk with hk; subst hk; rw [hh]; exact ⟨_, _, _, _, rfl, rfl⟩
    | 1, hk => injection hk with hk; subst hk; rw [hh]; exact ⟨_, _, _, _, rfl, rfl⟩
  have HFEW := Lib.hid hfew
  clear hfew H1
  cases hf : [(a.ints.length, a.fracs.length), (b.ints.length, b.fracs.length)].all fewB
  · rw [hf] at HFEW
    clear hf HB0 HN0 HR0 HB1 HN1 HR1
    go_wp2_with fail
    refine HFEW.out.mono ?_
    rintro e w1 ⟨rfl, hE1⟩
    have HE1 := Lib.hid (EW.out.trans (E1.out.trans hE1))
    clear hE1 HFEW
    go_wp2_with fail
    refine (alive_any _).mono ?_
    rintro e w2 ⟨rfl, hE2⟩
    have HE2 := Lib.hid (HE1.out.trans hE2)
    clear hE2
    go_wp2
    refine bodyPost_ret (results_tmp rfl _ _ _) rfl ⟨rfl, HE2.out⟩
  rw [hf] at HFEW
  have S0 : Hid (Sz 8 a) := Lib.hid (by simp [fewB] at hf; exact ⟨by omega, by omega⟩)
  have S1 : Hid (Sz 8 b) := Lib.hid (by simp [fewB] at hf; exact ⟨by omega, by omega⟩)
  clear hf
  go_wp2_with fail
  refine HFEW.out.mono ?_
  rintro e w1 ⟨rfl, hE1⟩
  have HB0 := Lib.hid (HB0.out.ext (E1.out.trans hE1))
  have HN0 := Lib.hid (HN0.out.ext (E1.out.trans hE1))
  have HB1 := Lib.hid (HB1.out.ext (E1.out.trans hE1))
  have HN1 := Lib.hid (HN1.out.ext (E1.out.trans hE1))
  have HEW := Lib.hid (EW.out.trans (E1.out.trans hE1))
  clear hE1 HFEW hW0 E1 Z1 EW f0a f0b f1a f1b
  go_wp2_with fail
  refine wp_region_all (m := 45) (by kernel_rfl) rfl rfl rfl (by kernel_rfl) (by kernel_rfl) ?_
  refine rel_load (t := 2) (g := w.heap.size) (D := a) trivial (by kernel_rfl) (by kernel_rfl) (fun w h => ⟨_, _, (HB0.out.ext h).cell0, (HB0.out.ext h).cell1, HN0.out.ext h⟩) (by intro ρ w x y h1 h2 h3; go_simp) ?_
  refine rel_load (t := 3) (g := (w.heap.size + 1)) (D := b) trivial (by kernel_rfl) (by kernel_rfl) (fun w h => ⟨_, _, (HB1.out.ext h).cell0, (HB1.out.ext h).cell1, HN1.out.ext h⟩) (by intro ρ w x y h1 h2 h3; go_simp) ?_
  refine rel_call2 (Nms (andR a b)) (Nms.stable _) trivial (f := 29) (fun u u' => #[u, u']) (t := 11) (t' := 12) (S := (Nms (a))) (S' := (Nms (b))) (by kernel_rfl) (by kernel_rfl) (by kernel_rfl) (by kernel_rfl) (by intro ρ w hc hf; go_simp) (fun w u u' hE hu hu' => (andP_eq a b) ▸ andP_any w u a hu u' b hu' (Sz.mono (S0.out) (by decide)) (Sz.mono (S1.out) (by decide)) HR0.out HR1.out) ?_
  refine rel_load (t := 2) (g := w.heap.size) (D := a) trivial (by kernel_rfl) (by kernel_rfl) (fun w h => ⟨_, _, (HB0.out.ext h).cell0, (HB0.out.ext h).cell1, HN0.out.ext h⟩) (by intro ρ w x y h1 h2 h3; go_simp) ?_
  refine rel_load (t := 3) (g := (w.heap.size + 1)) (D := b) trivial (by kernel_rfl) (by kernel_rfl) (fun w h => ⟨_, _, (HB1.out.ext h).cell0, (HB1.out.ext h).cell1, HN1.out.ext h⟩) (by intro ρ w x y h1 h2 h3; go_simp) ?_
  refine rel_call2 (Nms (andR a b)) (Nms.stable _) trivial (f := 41) (fun u u' => #[u, u']) (t := 14) (t' := 15) (S := (Nms (a))) (S' := (Nms (b))) (by kernel_rfl) (by kernel_rfl) (by kernel_rfl) (by kernel_rfl) (by intro ρ w hc hf; go_simp) (fun w u u' hE hu hu' => andR_any w u a hu u' b hu' (Sz.mono (S0.out) (by decide)) (Sz.mono (S1.out) (by decide))) ?_
  refine rel_call2 (Is (.bool true)) (Is.stable _) trivial (f := 14) (fun u u' => #[u, u']) (t := 13) (t' := 16) (S := (Nms (andR a b))) (S' := (Nms (andR a b))) (by kernel_rfl) (by kernel_rfl) (by kernel_rfl) (by kernel_rfl) (by intro ρ w hc hf; go_simp) (fun w u u' hE hu hu' => conB (sameR_any w u (andR a b) hu u' (andR a b) hu' (Sz.mono (andR_sz (S0.out) (S1.out)) (by decide)) (Sz.mono (andR_sz (S0.out) (S1.out)) (by decide))) (congrArg Value.bool ((sameN_tt _ _).2 rfl))) ?_
  refine rel_move (t := 17) (v := .bool true) rfl trivial (by kernel_rfl) (by kernel_rfl) ?_
  refine rel_load (t := 2) (g := w.heap.size) (D := a) ⟨18, by kernel_rfl, by kernel_rfl⟩ (by kernel_rfl) (by kernel_rfl) (fun w h => ⟨_, _, (HB0.out.ext h).cell0, (HB0.out.ext h).cell1, HN0.out.ext h⟩) (by intro ρ w x y h1 h2 h3; go_simp) ?_
  refine rel_load (t := 3) (g := (w.heap.size + 1)) (D := b) ⟨18, by kernel_rfl, by kernel_rfl⟩ (by kernel_rfl) (by kernel_rfl) (fun w h => ⟨_, _, (HB1.out.ext h).cell0, (HB1.out.ext h).cell1, HN1.out.ext h⟩) (by intro ρ w x y h1 h2 h3; go_simp) ?_
  refine rel_call2 (Nms (orR a b)) (Nms.stable _) ⟨18, by kernel_rfl, by kernel_rfl⟩ (f := 28) (fun u u' => #[u, u']) (t := 19) (t' := 20) (S := (Nms (a))) (S' := (Nms (b))) (by kernel_rfl) (by kernel_rfl) (by kernel_rfl) (by kernel_rfl) (by intro ρ w hc hf; go_simp) (fun w u u' hE hu hu' => orP_any w u a hu u' b hu' (Sz.mono (S0.out) (by decide)) (Sz.mono (S1.out) (by decide)) HR0.out HR1.out) ?_
  refine rel_load (t := 2) (g := w.heap.size) (D := a) ⟨18, by kernel_rfl, by kernel_rfl⟩ (by kernel_rfl) (by kernel_rfl) (fun w h => ⟨_, _, (HB0.out.ext h).cell0, (HB0.out.ext h).cell1, HN0.out.ext h⟩) (by intro ρ w x y h1 h2 h3; go_simp) ?_
  refine rel_load (t := 3) (g := (w.heap.size + 1)) (D := b) ⟨18, by kernel_rfl, by kernel_rfl⟩ (by kernel_rfl) (by kernel_rfl) (fun w h => ⟨_, _, (HB1.out.ext h).cell0, (HB1.out.ext h).cell1, HN1.out.ext h⟩) (by intro ρ w x y h1 h2 h3; go_simp) ?_
  refine rel_call2 (Nms (orR a b)) (Nms.stable _) ⟨18, by kernel_rfl, by kernel_rfl⟩ (f := 42) (fun u u' => #[u, u']) (t := 22) (t' := 23) (S := (Nms (a))) (S' := (Nms (b))) (by kernel_rfl) (by kernel_rfl) (by kernel_rfl) (by kernel_rfl) (by intro ρ w hc hf; go_simp) (fun w u u' hE hu hu' => orR_any w u a hu u' b hu' (Sz.mono (S0.out) (by decide)) (Sz.mono (S1.out) (by decide))) ?_
  refine rel_call2 (Is (.bool true)) (Is.stable _) ⟨18, by kernel_rfl, by kernel_rfl⟩ (f := 14) (fun u u' => #[u, u']) (t := 21) (t' := 24) (S := (Nms (orR a b))) (S' := (Nms (orR a b))) (by kernel_rfl) (by kernel_rfl) (by kernel_rfl) (by kernel_rfl) (by intro ρ w hc hf; go_simp) (fun w u u' hE hu hu' => conB (sameR_any w u (orR a b) hu u' (orR a b) hu' (Sz.mono (orR_sz (S0.out) (S1.out)) (by decide)) (Sz.mono (orR_sz (S0.out) (S1.out)) (by decide))) (congrArg Value.bool ((sameN_tt _ _).2 rfl))) ?_
  refine rel_val2 (t := 18) (t' := 25) (v1 := .bool true) (v2 := .bool true) (v := .bool true) trivial (by kernel_rfl) (by kernel_rfl) (by kernel_rfl) (by kernel_rfl) (by intro ρ w hc h1 h2; go_simp) ?_
  refine rel_move (t := 26) (v := .bool true) rfl trivial (by kernel_rfl) (by kernel_rfl) ?_
  refine rel_load (t := 2) (g := w.heap.size) (D := a) ⟨27, by kernel_rfl, by kernel_rfl⟩ (by kernel_rfl) (by kernel_rfl) (fun w h => ⟨_, _, (HB0.out.ext h).cell0, (HB0.out.ext h).cell1, HN0.out.ext h⟩) (by intro ρ w x y h1 h2 h3; go_simp) ?_
  refine rel_call1 (Nms (notR a)) (Nms.stable _) ⟨27, by kernel_rfl, by kernel_rfl⟩ (f := 30) (fun u => #[u]) (t := 28) (S := (Nms (a))) (by kernel_rfl) (by kernel_rfl) (by intro ρ w hc hf; go_simp) (fun w u hE hu => (notP_eq a) ▸ notP_any w u a hu (Sz.mono (S0.out) (by decide)) HR0.out) ?_
  refine rel_load (t := 2) (g := w.heap.size) (D := a) ⟨27, by kernel_rfl, by kernel_rfl⟩ (by kernel_rfl) (by kernel_rfl) (fun w h => ⟨_, _, (HB0.out.ext h).cell0, (HB0.out.ext h).cell1, HN0.out.ext h⟩) (by intro ρ w x y h1 h2 h3; go_simp) ?_
  refine rel_call1 (Nms (notR a)) (Nms.stable _) ⟨27, by kernel_rfl, by kernel_rfl⟩ (f := 43) (fun u => #[u]) (t := 30) (S := (Nms (a))) (by kernel_rfl) (by kernel_rfl) (by intro ρ w hc hf; go_simp) (fun w u hE hu => notR_any w u a hu (Sz.mono (S0.out) (by decide))) ?_
  refine rel_call2 (Is (.bool true)) (Is.stable _) ⟨27, by kernel_rfl, by kernel_rfl⟩ (f := 14) (fun u u' => #[u, u']) (t := 29) (t' := 31) (S := (Nms (notR a))) (S' := (Nms (notR a))) (by kernel_rfl) (by kernel_rfl) (by kernel_rfl) (by kernel_rfl) (by intro ρ w hc hf; go_simp) (fun w u u' hE hu hu' => conB (sameR_any w u (notR a) hu u' (notR a) hu' (Sz.mono (notR_sz (S0.out)) (by decide)) (Sz.mono (notR_sz (S0.out)) (by decide))) (congrArg Value.bool ((sameN_tt _ _).2 rfl))) ?_
  refine rel_val2 (t := 27) (t' := 32) (v1 := .bool true) (v2 := .bool true) (v := .bool true) trivial (by kernel_rfl) (by kernel_rfl) (by kernel_rfl) (by kernel_rfl) (by intro ρ w hc h1 h2; go_simp) ?_
  refine rel_move (t := 33) (v := .bool true) rfl trivial (by kernel_rfl) (by kernel_rfl) ?_
  refine rel_load (t := 2) (g := w.heap.size) (D := a) ⟨34, by kernel_rfl, by kernel_rfl⟩ (by kernel_rfl) (by kernel_rfl) (fun w h => ⟨_, _, (HB0.out.ext h).cell0, (HB0.out.ext h).cell1, HN0.out.ext h⟩) (by intro ρ w x y h1 h2 h3; go_simp) ?_
  refine rel_load (t := 3) (g := (w.heap.size + 1)) (D := b) ⟨34, by kernel_rfl, by kernel_rfl⟩ (by kernel_rfl) (by kernel_rfl) (fun w h => ⟨_, _, (HB1.out.ext h).cell0, (HB1.out.ext h).cell1, HN1.out.ext h⟩) (by intro ρ w x y h1 h2 h3; go_simp) ?_
  refine rel_call2 (Nms (minusR a b)) (Nms.stable _) ⟨34, by kernel_rfl, by kernel_rfl⟩ (f := 44) (fun u u' => #[u, u']) (t := 35) (t' := 36) (S := (Nms (a))) (S' := (Nms (b))) (by kernel_rfl) (by kernel_rfl) (by kernel_rfl) (by kernel_rfl) (by intro ρ w hc hf; go_simp) (fun w u u' hE hu hu' => (minusP_eq a b) ▸ minusP_any w u a hu u' b hu' (Sz.mono (S0.out) (by decide)) (Sz.mono (S1.out) (by decide)) HR0.out HR1.out) ?_
  refine rel_load (t := 2) (g := w.heap.size) (D := a) ⟨34, by kernel_rfl, by kernel_rfl⟩ (by kernel_rfl) (by kernel_rfl) (fun w h => ⟨_, _, (HB0.out.ext h).cell0, (HB0.out.ext h).cell1, HN0.out.ext h⟩) (by intro ρ w x y h1 h2 h3; go_simp) ?_
  refine rel_load (t := 3) (g := (w.heap.size + 1)) (D := b) ⟨34, by kernel_rfl, by kernel_rfl⟩ (by kernel_rfl) (by kernel_rfl) (fun w h => ⟨_, _, (HB1.out.ext h).cell0, (HB1.out.ext h).cell1, HN1.out.ext h⟩) (by intro ρ w x y h1 h2 h3; go_simp) ?_
  refine rel_call2 (Nms (minusR a b)) (Nms.stable _) ⟨34, by kernel_rfl, by kernel_rfl⟩ (f := 45) (fun u u' => #[u, u']) (t := 38) (t' := 39) (S := (Nms (a))) (S' := (Nms (b))) (by kernel_rfl) (by kernel_rfl) (by kernel_rfl) (by kernel_rfl) (by intro ρ w hc hf; go_simp) (fun w u u' hE hu hu' => minusR_any w u a hu u' b hu' (Sz.mono (S0.out) (by decide)) (Sz.mono (S1.out) (by decide))) ?_
  refine rel_call2 (Is (.bool true)) (Is.stable _) ⟨34, by kernel_rfl, by kernel_rfl⟩ (f := 14) (fun u u' => #[u, u']) (t := 37) (t' := 40) (S := (Nms (minusR a b))) (S' := (Nms (minusR a b))) (by kernel_rfl) (by kernel_rfl) (by kernel_rfl) (by kernel_rfl) (by intro ρ w hc hf; go_simp) (fun w u u' hE hu hu' => conB (sameR_any w u (minusR a b) hu u' (minusR a b) hu' (Sz.mono (minusR_sz (S0.out) (S1.out)) (by decide)) (Sz.mono (minusR_sz (S0.out) (S1.out)) (by decide))) (congrArg Value.bool ((sameN_tt _ _).2 rfl))) ?_
  refine rel_val2 (t := 34) (t' := 41) (v1 := .bool true) (v2 := .bool true) (v := .bool true) trivial (by kernel_rfl) (by kernel_rfl) (by kernel_rfl) (by kernel_rfl) (by intro ρ w hc h1 h2; go_simp) ?_
  refine rel_move (t := 42) (v := .bool true) rfl trivial (by kernel_rfl) (by kernel_rfl) ?_
  refine rel_load (t := 2) (g := w.heap.size) (D := a) ⟨43, by kernel_rfl, by kernel_rfl⟩ (by kernel_rfl) (by kernel_rfl) (fun w h => ⟨_, _, (HB0.out.ext h).cell0, (HB0.out.ext h).cell1, HN0.out.ext h⟩) (by intro ρ w x y h1 h2 h3; go_simp) ?_
  refine rel_load (t := 3) (g := (w.heap.size + 1)) (D := b) ⟨43, by kernel_rfl, by kernel_rfl⟩ (by kernel_rfl) (by kernel_rfl) (fun w h => ⟨_, _, (HB1.out.ext h).cell0, (HB1.out.ext h).cell1, HN1.out.ext h⟩) (by intro ρ w x y h1 h2 h3; go_simp) ?_
  refine rel_call2 (Is (.bool (subsetR a b))) (Is.stable _) ⟨43, by kernel_rfl, by kernel_rfl⟩ (f := 46) (fun u u' => #[u, u']) (t := 44) (t' := 45) (S := (Nms (a))) (S' := (Nms (b))) (by kernel_rfl) (by kernel_rfl) (by kernel_rfl) (by kernel_rfl) (by intro ρ w hc hf; go_simp) (fun w u u' hE hu hu' => conB (subsetP_any w u a hu u' b hu' (Sz.mono (S0.out) (by decide)) (Sz.mono (S1.out) (by decide)) HR0.out HR1.out) (congrArg Value.bool (subsetP_eq _ _))) ?_
  refine rel_load (t := 2) (g := w.heap.size) (D := a) ⟨43, by kernel_rfl, by kernel_rfl⟩ (by kernel_rfl) (by kernel_rfl) (fun w h => ⟨_, _, (HB0.out.ext h).cell0, (HB0.out.ext h).cell1, HN0.out.ext h⟩) (by intro ρ w x y h1 h2 h3; go_simp) ?_
  refine rel_load (t := 3) (g := (w.heap.size + 1)) (D := b) ⟨43, by kernel_rfl, by kernel_rfl⟩ (by kernel_rfl) (by kernel_rfl) (fun w h => ⟨_, _, (HB1.out.ext h).cell0, (HB1.out.ext h).cell1, HN1.out.ext h⟩) (by intro ρ w x y h1 h2 h3; go_simp) ?_
  refine rel_call2 (Is (.bool (subsetR a b))) (Is.stable _) ⟨43, by kernel_rfl, by kernel_rfl⟩ (f := 47) (fun u u' => #[u, u']) (t := 47) (t' := 48) (S := (Nms (a))) (S' := (Nms (b))) (by kernel_rfl) (by kernel_rfl) (by kernel_rfl) (by kernel_rfl) (by intro ρ w hc hf; go_simp) (fun w u u' hE hu hu' => conB (subsetR_any w u a hu u' b hu' (Sz.mono (S0.out) (by decide)) (Sz.mono (S1.out) (by decide))) rfl) ?_
  refine rel_val2 (t := 46) (t' := 49) (v1 := .bool (subsetR a b)) (v2 := .bool (subsetR a b)) (v := .bool true) ⟨43, by kernel_rfl, by kernel_rfl⟩ (by kernel_rfl) (by kernel_rfl) (by kernel_rfl) (by kernel_rfl) (by intro ρ w hc h1 h2; go_simp) ?_
  refine rel_val2 (t := 43) (t' := 50) (v1 := .bool true) (v2 := .bool true) (v := .bool true) trivial (by kernel_rfl) (by kernel_rfl) (by kernel_rfl) (by kernel_rfl) (by intro ρ w hc h1 h2; go_simp) ?_
  refine rel_move (t := 51) (v := .bool true) rfl trivial (by kernel_rfl) (by kernel_rfl) ?_
  refine rel_call0 (Is (.bool true)) (Is.stable _) ⟨52, by kernel_rfl, by kernel_rfl⟩ (f := 15) #[] (by intro ρ w hc hf; go_simp) (fun w hE => conB (alive_any w) rfl) ?_
  refine rel_val2 (t := 52) (t' := 53) (v1 := .bool true) (v2 := .bool true) (v := .bool true) trivial (by kernel_rfl) (by kernel_rfl) (by kernel_rfl) (by kernel_rfl) (by intro ρ w hc h1 h2; go_simp) ?_
  refine rel_assign_fin (t := 54) (d := 4) (v := .bool true) rfl rfl trivial (by kernel_rfl) (by kernel_rfl) (of_decide_eq_true (by kernel_rfl)) ?_
  intro a' w5 hE5 hv hd
  have HV := Lib.hid hv
  have hd2 : a'.defers = [] := hd
  have HD2 := Lib.hid hd2
  have HF := Lib.hid (HEW.out.trans hE5)
  clear hv hd hd2 hE5
  apply_assumption
  go_wp2
  refine bodyPost_ret (v := .bool true) ?_ HD2.out ⟨rfl, HF.out⟩
  rw [results_tmp (t := 4) rfl, HV.out]
end Go.Proofs.Ytaianhhmmacblaa
