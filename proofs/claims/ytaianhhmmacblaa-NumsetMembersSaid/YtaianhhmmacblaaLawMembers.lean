import Derived.Test.YtaianhhmmacblaaAlive
import Derived.Test.YtaianhhmmacblaaOpen
import Derived.Test.YtaianhhmmacblaaRelKV
import Derived.Test.YtaianhhmmacblaaLaws1
/-
  The law NumsetMembers.
-/
namespace Go.Proofs.Ytaianhhmmacblaa
open Go Go.RowKit
attribute [local irreducible] relSeq relSeqV endE upd

set_option maxRecDepth 100000 in
set_option maxHeartbeats 4000000 in
theorem lawMembers (w : World) (v0 : Value) (a : Nm) (h0 : NmAt w v0 a) (r0 : InR a.fracs) (v1 : Value) (b : Nm) (h1 : NmAt w v1 b) (r1 : InR b.fracs) (n : Int) (hn : -9223372036854775808 ≤ n ∧ n ≤ 9223372036854775807) :
    Calls Try.prog 11 #[v0, v1, .int .i64 n] w fun e w' => e = .returned (.bool true) ∧ Ext w w' := by
  have g0 := h0
  obtain ⟨A0, c0, B0, e0, rfl, x0, y0⟩ := g0
  have g1 := h1
  obtain ⟨A1, c1, B1, e1, rfl, x1, y1⟩ := g1
  have b0 : BlkN ((w.alloc (.cells #[.slice A0 a.ints.length c0, .slice B0 a.fracs.length e0] 24)).alloc (.cells #[.slice A1 b.ints.length c1, .slice B1 b.fracs.length e1] 24)) w.heap.size (.slice A0 a.ints.length c0) (.slice B0 a.fracs.length e0) := by simpa using (BlkN.new w (.slice A0 a.ints.length c0) (.slice B0 a.fracs.length e0)).alloc _
  have b1 : BlkN ((w.alloc (.cells #[.slice A0 a.ints.length c0, .slice B0 a.fracs.length e0] 24)).alloc (.cells #[.slice A1 b.ints.length c1, .slice B1 b.fracs.length e1] 24)) (w.heap.size + 1) (.slice A1 b.ints.length c1) (.slice B1 b.fracs.length e1) := by simpa using BlkN.new (w.alloc (.cells #[.slice A0 a.ints.length c0, .slice B0 a.fracs.length e0] 24)) (.slice A1 b.ints.length c1) (.slice B1 b.fracs.length e1)
  have hEW : Ext w ((w.alloc (.cells #[.slice A0 a.ints.length c0, .slice B0 a.fracs.length e0] 24)).alloc (.cells #[.slice A1 b.ints.length c1, .slice B1 b.fracs.length e1] 24)) := ((Ext.refl w).alloc _).alloc _
  have hsz : ((w.alloc (.cells #[.slice A0 a.ints.length c0, .slice B0 a.fracs.length e0] 24)).alloc (.cells #[.slice A1 b.ints.length c1, .slice B1 b.fracs.length e1] 24)).heap.size = w.heap.size + 2 := by simp
  go_enter Try.func11, Try.ntmps11
  generalize hW0 : ((w.alloc (.cells #[.slice A0 a.ints.length c0, .slice B0 a.fracs.length e0] 24)).alloc (.cells #[.slice A1 b.ints.length c1, .slice B1 b.fracs.length e1] 24)) = W at *
  have hh := heap_alloc_new W (.cells #[.slice A0 a.ints.length c0, .slice B0 a.fracs.length e0, .slice A1 b.ints.length c1, .slice B1 b.fracs.length e1] 24)
  have hE1 := (Ext.refl W).alloc (.cells #[.slice A0 a.ints.length c0, .slice B0 a.fracs.length e0, .slice A1 b.ints.length c1, .slice B1 b.fracs.length e1] 24)
  have hz1 : (W.alloc (.cells #[.slice A0 a.ints.length c0, .slice B0 a.fracs.length e0, .slice A1 b.ints.length c1, .slice B1 b.fracs.length e1] 24)).heap.size = W.heap.size + 1 := by simp
  have H1 := Lib.hid hh
  have E1 := Lib.hid hE1
  have Z1 := Lib.hid hz1
  have EW := Lib.hid hEW
  have SZ := Lib.hid hsz
  have f0a := b0.cell0
  have f0b := b0.cell1
  have HB0 := Lib.hid b0
  have HN0 := Lib.hid (h0.ext hEW)
  have HR0 := Lib.hid r0
  have f1a := b1.cell0
  have f1b := b1.cell1
  have HB1 := Lib.hid b1
  have HN1 := Lib.hid (h1.ext hEW)
  have HR1 := Lib.hid r1
  clear hh hE1 hz1 hEW hsz b0 h0 r0 x0 y0 b1 h1 r1 x1 y1
  have hfew : Calls Try.prog 19 #[.slice (some ⟨W.heap.size, 0, none⟩) 2 2] (W.alloc (.cells #[.slice A0 a.ints.length c0, .slice B0 a.fracs.length e0, .slice A1 b.ints.length c1, .slice B1 b.fracs.length e1] 24)) fun e w' => e = .returned (.bool ([(a.ints.length, a.fracs.length), (b.ints.length, b.fracs.length)].all fewB)) ∧ Ext (W.alloc (.cells #[.slice A0 a.ints.length c0, .slice B0 a.fracs.length e0, .slice A1 b.ints.length c1, .slice B1 b.fracs.length e1] 24)) w' := by
    refine few_any (W.alloc (.cells #[.slice A0 a.ints.length c0, .slice B0 a.fracs.length e0, .slice A1 b.ints.length c1, .slice B1 b.fracs.length e1] 24)) W.heap.size [(a.ints.length, a.fracs.length), (b.ints.length, b.fracs.length)] 2 (by rw [Z1.out]; omega) ?_ (by simp)
    intro k x hk
    have hh := H1.out
    unfold World.cell?
    match k, hk with
    | 0, hk => injection hk with hk; subst hk; rw [hh]; exact ⟨_, _, _, _, rfl, rfl⟩
    | 1, hk => injection hk with hk; subst hk; rw [hh]; exact ⟨_, _, _, _, rfl, rfl⟩
  have HFEW := Lib.hid hfew
  clear hfew H1
  cases hf : [(a.ints.length, a.fracs.length), (b.ints.length, b.fracs.length)].all fewB
  · rw [hf] at HFEW
    clear hf HB0 HN0 HR0 HB1 HN1 HR1
    go_wp2_with fail
    refine HFEW.out.mono ?_
    rintro e w1 ⟨rfl, hE1⟩
    have HE1 := Lib.hid (EW.out.trans (E1.out.trans hE1))
    clear hE1 HFEW
    go_wp2_with fail
    refine (alive_any _).mono ?_
    rintro e w2 ⟨rfl, hE2⟩
    have HE2 := Lib.hid (HE1.out.trans hE2)
    clear hE2
    go_wp2
    refine bodyPost_ret (results_tmp rfl _ _ _) rfl ⟨rfl, HE2.out⟩
  rw [hf] at HFEW
  have S0 : Hid (Sz 8 a) := Lib.hid (by simp [fewB] at hf; exact ⟨by omega, by omega⟩)
  have S1 : Hid (Sz 8 b) := Lib.hid (by simp [fewB] at hf; exact ⟨by omega, by omega⟩)
  clear hf
  go_wp2_with fail
  refine HFEW.out.mono ?_
  rintro e w1 ⟨rfl, hE1⟩
  have HB0 := Lib.hid (HB0.out.ext (E1.out.trans hE1))
  have HN0 := Lib.hid (HN0.out.ext (E1.out.trans hE1))
  have HB1 := Lib.hid (HB1.out.ext (E1.out.trans hE1))
  have HN1 := Lib.hid (HN1.out.ext (E1.out.trans hE1))
  have HEW := Lib.hid (EW.out.trans (E1.out.trans hE1))
  clear hE1 HFEW hW0 E1 Z1 EW f0a f0b f1a f1b
  go_wp2_with fail
  refine chain_draw (n := 117) (l := [(2, .int .i64 n), (3, .pointer (some ⟨w.heap.size, 0, none⟩)), (4, .pointer (some ⟨w.heap.size + 1, 0, none⟩)), (10, undef), (11, undef), (12, undef), (13, undef)]) (by exact ⟨rfl, rfl, rfl, rfl, rfl, rfl, rfl, trivial⟩) (by rfl) (by kernel_rfl) rfl (by kernel_rfl) (by kernel_rfl) ?_
  refine rel_load (t := 3) (g := w.heap.size) (D := a) trivial (by kernel_rfl) (by kernel_rfl) (fun w h => ⟨_, _, (HB0.out.ext h).cell0, (HB0.out.ext h).cell1, HN0.out.ext h⟩) (by intro ρ w x y h1 h2 h3; go_simp) ?_
  refine rel_move (t := 2) (v := .int .i64 n) rfl trivial (by kernel_rfl) (by kernel_rfl) ?_
  refine rel_call2 (Is (.bool (hasL a n))) (Is.stable _) trivial (f := 16) (fun u u' => #[u, u']) (t := 20) (t' := 21) (S := (Nms (a))) (S' := (Is (.int .i64 n))) (by kernel_rfl) (by kernel_rfl) (by kernel_rfl) (by kernel_rfl) (by intro ρ w hc hf; go_simp) (fun w u u' hE hu hu' => by rw [show u' = .int .i64 n from hu']; exact conB (hasP_any w u a n hu (Sz.mono (S0.out) (by decide)) HR0.out hn.1 hn.2) (congrArg Value.bool (hasP_eq _ _))) ?_
  refine rel_load (t := 4) (g := w.heap.size + 1) (D := b) trivial (by kernel_rfl) (by kernel_rfl) (fun w h => ⟨_, _, (HB1.out.ext h).cell0, (HB1.out.ext h).cell1, HN1.out.ext h⟩) (by intro ρ w x y h1 h2 h3; go_simp) ?_
  refine rel_move (t := 2) (v := .int .i64 n) rfl trivial (by kernel_rfl) (by kernel_rfl) ?_
  refine rel_call2 (Is (.bool (hasL b n))) (Is.stable _) trivial (f := 16) (fun u u' => #[u, u']) (t := 23) (t' := 24) (S := (Nms (b))) (S' := (Is (.int .i64 n))) (by kernel_rfl) (by kernel_rfl) (by kernel_rfl) (by kernel_rfl) (by intro ρ w hc hf; go_simp) (fun w u u' hE hu hu' => by rw [show u' = .int .i64 n from hu']; exact conB (hasP_any w u b n hu (Sz.mono (S1.out) (by decide)) HR1.out hn.1 hn.2) (congrArg Value.bool (hasP_eq _ _))) ?_
  refine rel_call0 (Nms (allN)) (Nms.stable _) trivial (f := 31) #[] (by intro ρ w hc hf; go_simp) (fun w hE => allP_any w) ?_
  refine rel_move (t := 2) (v := .int .i64 n) rfl trivial (by kernel_rfl) (by kernel_rfl) ?_
  refine rel_call2 (Is (.bool (hasL allN n))) (Is.stable _) trivial (f := 16) (fun u u' => #[u, u']) (t := 26) (t' := 27) (S := (Nms (allN))) (S' := (Is (.int .i64 n))) (by kernel_rfl) (by kernel_rfl) (by kernel_rfl) (by kernel_rfl) (by intro ρ w hc hf; go_simp) (fun w u u' hE hu hu' => by rw [show u' = .int .i64 n from hu']; exact conB (hasP_any w u allN n hu (Sz.mono ((⟨by decide, by decide⟩ : Sz 1 allN)) (by decide)) (inr_can allN_can) hn.1 hn.2) (congrArg Value.bool (hasP_eq _ _))) ?_
  refine rel_assign (t := 22) (v := .bool (hasL a n)) rfl trivial (by kernel_rfl) (by kernel_rfl) ?_
  refine rel_assign (t := 25) (v := .bool (hasL b n)) rfl trivial (by kernel_rfl) (by kernel_rfl) ?_
  refine rel_assign (t := 28) (v := .bool (hasL allN n)) rfl trivial (by kernel_rfl) (by kernel_rfl) ?_
  refine rel_end (env0 := envL [(2, .int .i64 n), (3, .pointer (some ⟨w.heap.size, 0, none⟩)), (4, .pointer (some ⟨w.heap.size + 1, 0, none⟩)), (10, undef), (11, undef), (12, undef), (13, undef)]) (n := 117) (fun t w' => Knows.env (l := [(2, .int .i64 n), (3, .pointer (some ⟨w.heap.size, 0, none⟩)), (4, .pointer (some ⟨w.heap.size + 1, 0, none⟩)), (10, undef), (11, undef), (12, undef), (13, undef)]) (by exact ⟨rfl, rfl, rfl, rfl, rfl, rfl, rfl, trivial⟩) t w') (by rfl) ?_
  intro a1 q1 hE1 hd1 HS1 henv1
  have HD1 : Hid (a1.defers = []) := Lib.hid (hd1.trans rfl)
  clear hd1
  have kn2 : a1.tmps.getD 2 undef = .int .i64 n := knows_of (henv1 2 (by decide)) (by kernel_rfl)
  have kn3 : a1.tmps.getD 3 undef = .pointer (some ⟨w.heap.size, 0, none⟩) := knows_of (henv1 3 (by decide)) (by kernel_rfl)
  have kn4 : a1.tmps.getD 4 undef = .pointer (some ⟨w.heap.size + 1, 0, none⟩) := knows_of (henv1 4 (by decide)) (by kernel_rfl)
  have kn7 : a1.tmps.getD 7 undef = .bool (hasL a n) := knows_of (henv1 7 (by decide)) (by kernel_rfl)
  have kn8 : a1.tmps.getD 8 undef = .bool (hasL b n) := knows_of (henv1 8 (by decide)) (by kernel_rfl)
  have kn9 : a1.tmps.getD 9 undef = .bool (hasL allN n) := knows_of (henv1 9 (by decide)) (by kernel_rfl)
  have kn10 : a1.tmps.getD 10 undef = undef := knows_of (henv1 10 (by decide)) (by kernel_rfl)
  have kn11 : a1.tmps.getD 11 undef = undef := knows_of (henv1 11 (by decide)) (by kernel_rfl)
  have kn12 : a1.tmps.getD 12 undef = undef := knows_of (henv1 12 (by decide)) (by kernel_rfl)
  have kn13 : a1.tmps.getD 13 undef = undef := knows_of (henv1 13 (by decide)) (by kernel_rfl)
  have HK1 : Knows a1 [(2, .int .i64 n), (3, .pointer (some ⟨w.heap.size, 0, none⟩)), (4, .pointer (some ⟨w.heap.size + 1, 0, none⟩)), (7, .bool (hasL a n)), (8, .bool (hasL b n)), (9, .bool (hasL allN n)), (10, undef), (11, undef), (12, undef), (13, undef)] := ⟨kn2, kn3, kn4, kn7, kn8, kn9, kn10, kn11, kn12, kn13, trivial⟩
  clear kn2 kn3 kn4 kn7 kn8 kn9 kn10 kn11 kn12 kn13 henv1
  have HB0 := Lib.hid (HB0.out.ext hE1)
  have HN0 := Lib.hid (HN0.out.ext hE1)
  have HB1 := Lib.hid (HB1.out.ext hE1)
  have HN1 := Lib.hid (HN1.out.ext hE1)
  have HEW := Lib.hid (HEW.out.trans hE1)
  clear hE1
  apply_assumption
  refine seq_nxt ?_
  refine chain_boxes [10, 11, 12, 13] (n := 117) (m := 15) (l := [(2, .int .i64 n), (3, .pointer (some ⟨w.heap.size, 0, none⟩)), (4, .pointer (some ⟨w.heap.size + 1, 0, none⟩)), (7, .bool (hasL a n)), (8, .bool (hasL b n)), (9, .bool (hasL allN n)), (10, undef), (11, undef), (12, undef), (13, undef)]) HK1 HS1 ?_ (by kernel_rfl) rfl rfl (by decide) (by kernel_rfl) (by kernel_rfl) ?_
  · intro s hs
    simp at hs
    rcases hs with rfl | rfl | rfl | rfl
    · exact HK1.2.2.2.2.2.2.1
    · exact HK1.2.2.2.2.2.2.2.1
    · exact HK1.2.2.2.2.2.2.2.2.1
    · exact HK1.2.2.2.2.2.2.2.2.2.1
  simp only [List.take_succ_cons, List.take_zero, List.drop_succ_cons, List.drop_zero]
  refine rel_loadV (t := 3) (g := w.heap.size) (D := a) (by kernel_rfl) trivial (by kernel_rfl) (by kernel_rfl) (fun w h => ⟨_, _, (HB0.out.ext h).cell0, (HB0.out.ext h).cell1, HN0.out.ext h⟩) (by intro ρ w x y h1 h2 h3; go_simp) ?_
  refine rel_loadV (t := 4) (g := w.heap.size + 1) (D := b) (by kernel_rfl) trivial (by kernel_rfl) (by kernel_rfl) (fun w h => ⟨_, _, (HB1.out.ext h).cell0, (HB1.out.ext h).cell1, HN1.out.ext h⟩) (by intro ρ w x y h1 h2 h3; go_simp) ?_
  refine rel_call2V (Nms (andR a b)) (Nms.stable _) (by kernel_rfl) trivial (f := 29) (fun u u' => #[u, u']) (t := 29) (t' := 30) (S1 := (Nms (a))) (S1' := (Nms (b))) (by kernel_rfl) (by kernel_rfl) (by kernel_rfl) (by kernel_rfl) (by intro ρ w hc hf; go_simp) (fun w u u' hE hu hu' => (andP_eq a b) ▸ andP_any w u a hu u' b hu' (Sz.mono (S0.out) (by decide)) (Sz.mono (S1.out) (by decide)) HR0.out HR1.out) ?_
  refine rel_loadV (t := 3) (g := w.heap.size) (D := a) (by kernel_rfl) trivial (by kernel_rfl) (by kernel_rfl) (fun w h => ⟨_, _, (HB0.out.ext h).cell0, (HB0.out.ext h).cell1, HN0.out.ext h⟩) (by intro ρ w x y h1 h2 h3; go_simp) ?_
  refine rel_loadV (t := 4) (g := w.heap.size + 1) (D := b) (by kernel_rfl) trivial (by kernel_rfl) (by kernel_rfl) (fun w h => ⟨_, _, (HB1.out.ext h).cell0, (HB1.out.ext h).cell1, HN1.out.ext h⟩) (by intro ρ w x y h1 h2 h3; go_simp) ?_
  refine rel_call2V (Nms (orR a b)) (Nms.stable _) (by kernel_rfl) trivial (f := 28) (fun u u' => #[u, u']) (t := 32) (t' := 33) (S1 := (Nms (a))) (S1' := (Nms (b))) (by kernel_rfl) (by kernel_rfl) (by kernel_rfl) (by kernel_rfl) (by intro ρ w hc hf; go_simp) (fun w u u' hE hu hu' => orP_any w u a hu u' b hu' (Sz.mono (S0.out) (by decide)) (Sz.mono (S1.out) (by decide)) HR0.out HR1.out) ?_
  refine rel_loadV (t := 3) (g := w.heap.size) (D := a) (by kernel_rfl) trivial (by kernel_rfl) (by kernel_rfl) (fun w h => ⟨_, _, (HB0.out.ext h).cell0, (HB0.out.ext h).cell1, HN0.out.ext h⟩) (by intro ρ w x y h1 h2 h3; go_simp) ?_
  refine rel_call1V (Nms (notR a)) (Nms.stable _) (by kernel_rfl) trivial (f := 30) (fun u => #[u]) (t := 35) (S1 := (Nms (a))) (by kernel_rfl) (by kernel_rfl) (by intro ρ w hc hf; go_simp) (fun w u hE hu => (notP_eq a) ▸ notP_any w u a hu (Sz.mono (S0.out) (by decide)) HR0.out) ?_
  refine rel_loadV (t := 3) (g := w.heap.size) (D := a) (by kernel_rfl) trivial (by kernel_rfl) (by kernel_rfl) (fun w h => ⟨_, _, (HB0.out.ext h).cell0, (HB0.out.ext h).cell1, HN0.out.ext h⟩) (by intro ρ w x y h1 h2 h3; go_simp) ?_
  refine rel_loadV (t := 4) (g := w.heap.size + 1) (D := b) (by kernel_rfl) trivial (by kernel_rfl) (by kernel_rfl) (fun w h => ⟨_, _, (HB1.out.ext h).cell0, (HB1.out.ext h).cell1, HN1.out.ext h⟩) (by intro ρ w x y h1 h2 h3; go_simp) ?_
  refine rel_call2V (Nms (minusR a b)) (Nms.stable _) (by kernel_rfl) trivial (f := 44) (fun u u' => #[u, u']) (t := 37) (t' := 38) (S1 := (Nms (a))) (S1' := (Nms (b))) (by kernel_rfl) (by kernel_rfl) (by kernel_rfl) (by kernel_rfl) (by intro ρ w hc hf; go_simp) (fun w u u' hE hu hu' => (minusP_eq a b) ▸ minusP_any w u a hu u' b hu' (Sz.mono (S0.out) (by decide)) (Sz.mono (S1.out) (by decide)) HR0.out HR1.out) ?_
  refine rel_allocV rfl trivial (by intro ρ w; go_simp) ?_
  refine rel_allocV rfl trivial (by intro ρ w; go_simp) ?_
  refine rel_allocV rfl trivial (by intro ρ w; go_simp) ?_
  refine rel_allocV rfl trivial (by intro ρ w; go_simp) ?_
  refine rel_endV (env0 := envL [(2, .int .i64 n), (3, .pointer (some ⟨w.heap.size, 0, none⟩)), (4, .pointer (some ⟨w.heap.size + 1, 0, none⟩)), (7, .bool (hasL a n)), (8, .bool (hasL b n)), (9, .bool (hasL allN n)), (10, undef), (11, undef), (12, undef), (13, undef)]) (n := 117) (fun t w' => Knows.env (l := [(2, .int .i64 n), (3, .pointer (some ⟨w.heap.size, 0, none⟩)), (4, .pointer (some ⟨w.heap.size + 1, 0, none⟩)), (7, .bool (hasL a n)), (8, .bool (hasL b n)), (9, .bool (hasL allN n)), (10, undef), (11, undef), (12, undef), (13, undef)]) HK1 t w') HS1 ?_
  intro a2 q2 hE2 hd2 HS2 henv2 hV2
  have HD2 : Hid (a2.defers = []) := Lib.hid (hd2.trans HD1.out)
  clear hd2
  obtain ⟨g10, ge10, gl10, gb10⟩ := (spec_of (S := BoxS q1) (henv2 10 (by decide)) (by kernel_rfl))
  obtain ⟨g11, ge11, gl11, gb11⟩ := (spec_of (S := BoxS q1) (henv2 11 (by decide)) (by kernel_rfl))
  obtain ⟨g12, ge12, gl12, gb12⟩ := (spec_of (S := BoxS q1) (henv2 12 (by decide)) (by kernel_rfl))
  obtain ⟨g13, ge13, gl13, gb13⟩ := (spec_of (S := BoxS q1) (henv2 13 (by decide)) (by kernel_rfl))
  obtain ⟨A31, c31, B31, e31, sv31, i31, f31⟩ := (spec_of (S := Nms (andR a b)) (henv2 31 (by decide)) (by kernel_rfl))
  have nm31 : NmAt q2 (.agg #[.slice A31 (andR a b).ints.length c31, .slice B31 (andR a b).fracs.length e31]) (andR a b) := ⟨_, _, _, _, rfl, i31, f31⟩
  clear i31 f31
  obtain ⟨A34, c34, B34, e34, sv34, i34, f34⟩ := (spec_of (S := Nms (orR a b)) (henv2 34 (by decide)) (by kernel_rfl))
  have nm34 : NmAt q2 (.agg #[.slice A34 (orR a b).ints.length c34, .slice B34 (orR a b).fracs.length e34]) (orR a b) := ⟨_, _, _, _, rfl, i34, f34⟩
  clear i34 f34
  obtain ⟨A36, c36, B36, e36, sv36, i36, f36⟩ := (spec_of (S := Nms (notR a)) (henv2 36 (by decide)) (by kernel_rfl))
  have nm36 : NmAt q2 (.agg #[.slice A36 (notR a).ints.length c36, .slice B36 (notR a).fracs.length e36]) (notR a) := ⟨_, _, _, _, rfl, i36, f36⟩
  clear i36 f36
  obtain ⟨A39, c39, B39, e39, sv39, i39, f39⟩ := (spec_of (S := Nms (minusR a b)) (henv2 39 (by decide)) (by kernel_rfl))
  have nm39 : NmAt q2 (.agg #[.slice A39 (minusR a b).ints.length c39, .slice B39 (minusR a b).fracs.length e39]) (minusR a b) := ⟨_, _, _, _, rfl, i39, f39⟩
  clear i39 f39
  have ne10_11 : g10 ≠ g11 := by
    intro e
    subst e
    exact (hV2 10 (by simp) 11 (by simp) (by decide)).2.2 g10 ge10 ge11
  have ne10_12 : g10 ≠ g12 := by
    intro e
    subst e
    exact (hV2 10 (by simp) 12 (by simp) (by decide)).2.2 g10 ge10 ge12
  have ne10_13 : g10 ≠ g13 := by
    intro e
    subst e
    exact (hV2 10 (by simp) 13 (by simp) (by decide)).2.2 g10 ge10 ge13
  have ne11_12 : g11 ≠ g12 := by
    intro e
    subst e
    exact (hV2 11 (by simp) 12 (by simp) (by decide)).2.2 g11 ge11 ge12
  have ne11_13 : g11 ≠ g13 := by
    intro e
    subst e
    exact (hV2 11 (by simp) 13 (by simp) (by decide)).2.2 g11 ge11 ge13
  have ne12_13 : g12 ≠ g13 := by
    intro e
    subst e
    exact (hV2 12 (by simp) 13 (by simp) (by decide)).2.2 g12 ge12 ge13
  have kn2 : a2.tmps.getD 2 undef = .int .i64 n := knows_of (henv2 2 (by decide)) (by kernel_rfl)
  have kn3 : a2.tmps.getD 3 undef = .pointer (some ⟨w.heap.size, 0, none⟩) := knows_of (henv2 3 (by decide)) (by kernel_rfl)
  have kn4 : a2.tmps.getD 4 undef = .pointer (some ⟨w.heap.size + 1, 0, none⟩) := knows_of (henv2 4 (by decide)) (by kernel_rfl)
  have kn7 : a2.tmps.getD 7 undef = .bool (hasL a n) := knows_of (henv2 7 (by decide)) (by kernel_rfl)
  have kn8 : a2.tmps.getD 8 undef = .bool (hasL b n) := knows_of (henv2 8 (by decide)) (by kernel_rfl)
  have kn9 : a2.tmps.getD 9 undef = .bool (hasL allN n) := knows_of (henv2 9 (by decide)) (by kernel_rfl)
  have HK2 : Knows a2 [(2, .int .i64 n), (3, .pointer (some ⟨w.heap.size, 0, none⟩)), (4, .pointer (some ⟨w.heap.size + 1, 0, none⟩)), (7, .bool (hasL a n)), (8, .bool (hasL b n)), (9, .bool (hasL allN n)), (10, .pointer (some ⟨g10, 0, none⟩)), (11, .pointer (some ⟨g11, 0, none⟩)), (12, .pointer (some ⟨g12, 0, none⟩)), (13, .pointer (some ⟨g13, 0, none⟩))] := ⟨kn2, kn3, kn4, kn7, kn8, kn9, ge10, ge11, ge12, ge13, trivial⟩
  clear henv2 hV2 kn2 kn3 kn4 kn7 kn8 kn9
  have hEs := hE2
  refine wpList_store (t := 10) (s := 31) rfl rfl ge10 sv31 gb10 (by intro ρ w h1 h2 h3 h4 h5 h6; go_simp) (fun z2_0 st10 => ?_)
  have nm31 := st10.nm nm31
  have nm34 := st10.nm nm34
  have nm36 := st10.nm nm36
  have nm39 := st10.nm nm39
  have gb11 := st10.box gb11 ne10_11.symm
  have gb12 := st10.box gb12 ne10_12.symm
  have gb13 := st10.box gb13 ne10_13.symm
  have gb10 := st10.blk
  have hEs := hEs.trans' (st10.below _ gl10)
  refine wpList_store (t := 11) (s := 34) rfl rfl ge11 sv34 gb11 (by intro ρ w h1 h2 h3 h4 h5 h6; go_simp) (fun z2_1 st11 => ?_)
  have nm31 := st11.nm nm31
  have nm34 := st11.nm nm34
  have nm36 := st11.nm nm36
  have nm39 := st11.nm nm39
  have gb10 := st11.box gb10 ne10_11
  have gb12 := st11.box gb12 ne11_12.symm
  have gb13 := st11.box gb13 ne11_13.symm
  have gb11 := st11.blk
  have hEs := hEs.trans' (st11.below _ gl11)
  refine wpList_store (t := 12) (s := 36) rfl rfl ge12 sv36 gb12 (by intro ρ w h1 h2 h3 h4 h5 h6; go_simp) (fun z2_2 st12 => ?_)
  have nm31 := st12.nm nm31
  have nm34 := st12.nm nm34
  have nm36 := st12.nm nm36
  have nm39 := st12.nm nm39
  have gb10 := st12.box gb10 ne10_12
  have gb11 := st12.box gb11 ne11_12
  have gb13 := st12.box gb13 ne12_13.symm
  have gb12 := st12.blk
  have hEs := hEs.trans' (st12.below _ gl12)
  refine wpList_store (t := 13) (s := 39) rfl rfl ge13 sv39 gb13 (by intro ρ w h1 h2 h3 h4 h5 h6; go_simp) (fun z2_3 st13 => ?_)
  have nm31 := st13.nm nm31
  have nm34 := st13.nm nm34
  have nm36 := st13.nm nm36
  have nm39 := st13.nm nm39
  have gb10 := st13.box gb10 ne10_13
  have gb11 := st13.box gb11 ne11_13
  have gb12 := st13.box gb12 ne12_13
  have gb13 := st13.blk
  have hEs := hEs.trans' (st13.below _ gl13)
  have HB0 := Lib.hid (HB0.out.ext hEs)
  have HN0 := Lib.hid (HN0.out.ext hEs)
  have HB1 := Lib.hid (HB1.out.ext hEs)
  have HN1 := Lib.hid (HN1.out.ext hEs)
  have HEW := Lib.hid (HEW.out.trans hEs)
  have HB_10 := Lib.hid gb10
  have HN_10 := Lib.hid nm31
  have HB_11 := Lib.hid gb11
  have HN_11 := Lib.hid nm34
  have HB_12 := Lib.hid gb12
  have HN_12 := Lib.hid nm36
  have HB_13 := Lib.hid gb13
  have HN_13 := Lib.hid nm39
  clear hE2 hEs ge10 gb10 sv31 nm31 st10 gl10 ge11 gb11 sv34 nm34 st11 gl11 ge12 gb12 sv36 nm36 st12 gl12 ge13 gb13 sv39 nm39 st13 gl13 ne10_11 ne10_12 ne10_13 ne11_12 ne11_13 ne12_13
  refine nxt_normal ?_
  refine seq_nxt (seq_nxt ?_)
  refine wp_split (fun a' w' => Ext z2_3 w' ∧ a'.defers = [] ∧ a'.tmps.size = 117 ∧ Knows a' [(2, .int .i64 n), (3, .pointer (some ⟨w.heap.size, 0, none⟩)), (4, .pointer (some ⟨w.heap.size + 1, 0, none⟩)), (7, .bool (hasL a n)), (8, .bool (hasL b n)), (9, .bool (hasL allN n)), (10, .pointer (some ⟨g10, 0, none⟩)), (11, .pointer (some ⟨g11, 0, none⟩)), (12, .pointer (some ⟨g12, 0, none⟩)), (13, .pointer (some ⟨g13, 0, none⟩)), (79, .bool false)]) ?_ ?_
  · rcases mem_ways a b n with ⟨ht, hx, hy, k⟩ | ⟨ht, hx, hy, k⟩ | ⟨ht, hx, hy, k⟩ | ⟨ht, hx, hy, k⟩ | ⟨ht, hx, hy, k⟩ | ⟨ht, hx, hy, k⟩
    · have Ht := Lib.hid ht
      have Hx := Lib.hid hx
      have Hy := Lib.hid hy
      clear ht hx hy
      have HKc : Knows a2 [(2, .int .i64 n), (3, .pointer (some ⟨w.heap.size, 0, none⟩)), (4, .pointer (some ⟨w.heap.size + 1, 0, none⟩)), (7, .bool true), (8, .bool true), (9, .bool true), (10, .pointer (some ⟨g10, 0, none⟩)), (11, .pointer (some ⟨g11, 0, none⟩)), (12, .pointer (some ⟨g12, 0, none⟩)), (13, .pointer (some ⟨g13, 0, none⟩))] := ⟨HK2.1, HK2.2.1, HK2.2.2.1, HK2.2.2.2.1.trans (show (.bool (hasL a n) : Value) = .bool true from (congrArg Value.bool Hx.out)), HK2.2.2.2.2.1.trans (show (.bool (hasL b n) : Value) = .bool true from (congrArg Value.bool Hy.out)), HK2.2.2.2.2.2.1.trans (show (.bool (hasL allN n) : Value) = .bool true from (congrArg Value.bool Ht.out)), HK2.2.2.2.2.2.2.1, HK2.2.2.2.2.2.2.2.1, HK2.2.2.2.2.2.2.2.2.1, HK2.2.2.2.2.2.2.2.2.2.1, trivial⟩
      refine chain_list (n := 117) (l := [(2, .int .i64 n), (3, .pointer (some ⟨w.heap.size, 0, none⟩)), (4, .pointer (some ⟨w.heap.size + 1, 0, none⟩)), (7, .bool true), (8, .bool true), (9, .bool true), (10, .pointer (some ⟨g10, 0, none⟩)), (11, .pointer (some ⟨g11, 0, none⟩)), (12, .pointer (some ⟨g12, 0, none⟩)), (13, .pointer (some ⟨g13, 0, none⟩))]) HKc HS2 rfl (by kernel_rfl) ?_
      refine rel_load (t := 10) (g := g10) (D := andR a b) trivial (by kernel_rfl) (by kernel_rfl) (fun w h => ⟨_, _, (HB_10.out.ext h).cell0, (HB_10.out.ext h).cell1, HN_10.out.ext h⟩) (by intro ρ w x y h1 h2 h3; go_simp) ?_
      refine rel_move (t := 2) (v := .int .i64 n) rfl trivial (by kernel_rfl) (by kernel_rfl) ?_
      refine rel_call2 (Is (.bool true)) (Is.stable _) trivial (f := 16) (fun u u' => #[u, u']) (t := 40) (t' := 41) (S := (Nms (andR a b))) (S' := (Is (.int .i64 n))) (by kernel_rfl) (by kernel_rfl) (by kernel_rfl) (by kernel_rfl) (by intro ρ w hc hf; go_simp) (fun w u u' hE hu hu' => by rw [show u' = .int .i64 n from hu']; exact conB (hasP_any w u (andR a b) n hu (Sz.mono (andR_sz (S0.out) (S1.out)) (by decide)) (inr_can (andR_can _ _)) hn.1 hn.2) (congrArg Value.bool (((hasP_eq _ _)).trans (by rw [has_and, Hx.out, Hy.out] <;> rfl)))) ?_
      refine rel_move (t := 7) (v := .bool true) rfl trivial (by kernel_rfl) (by kernel_rfl) ?_
      refine rel_move (t := 43) (v := .bool true) rfl trivial (by kernel_rfl) (by kernel_rfl) ?_
      refine rel_move (t := 8) (v := .bool true) rfl ⟨44, by kernel_rfl, by kernel_rfl⟩ (by kernel_rfl) (by kernel_rfl) ?_
      refine rel_val2 (t := 44) (t' := 45) (v1 := .bool true) (v2 := .bool true) (v := .bool true) trivial (by kernel_rfl) (by kernel_rfl) (by kernel_rfl) (by kernel_rfl) (by intro ρ w hc h1 h2; go_simp) ?_
      refine rel_val2 (t := 42) (t' := 46) (v1 := .bool true) (v2 := .bool true) (v := .bool false) trivial (by kernel_rfl) (by kernel_rfl) (by kernel_rfl) (by kernel_rfl) (by intro ρ w hc h1 h2; go_simp) ?_
      refine rel_move (t := 47) (v := .bool false) rfl trivial (by kernel_rfl) (by kernel_rfl) ?_
      refine rel_load (t := 11) (g := g11) (D := orR a b) ⟨48, by kernel_rfl, by kernel_rfl⟩ (by kernel_rfl) (by kernel_rfl) (fun w h => ⟨_, _, (HB_11.out.ext h).cell0, (HB_11.out.ext h).cell1, HN_11.out.ext h⟩) (by intro ρ w x y h1 h2 h3; go_simp) ?_
      refine rel_move (t := 2) (v := .int .i64 n) rfl ⟨48, by kernel_rfl, by kernel_rfl⟩ (by kernel_rfl) (by kernel_rfl) ?_
      refine rel_call2 (Is (.bool true)) (Is.stable _) ⟨48, by kernel_rfl, by kernel_rfl⟩ (f := 16) (fun u u' => #[u, u']) (t := 49) (t' := 50) (S := (Nms (orR a b))) (S' := (Is (.int .i64 n))) (by kernel_rfl) (by kernel_rfl) (by kernel_rfl) (by kernel_rfl) (by intro ρ w hc hf; go_simp) (fun w u u' hE hu hu' => by rw [show u' = .int .i64 n from hu']; exact conB (hasP_any w u (orR a b) n hu (Sz.mono (orR_sz (S0.out) (S1.out)) (by decide)) (inr_can (orR_can _ _)) hn.1 hn.2) (congrArg Value.bool (((hasP_eq _ _)).trans (by rw [has_or, Hx.out, Hy.out] <;> rfl)))) ?_
      refine rel_move (t := 7) (v := .bool true) rfl ⟨48, by kernel_rfl, by kernel_rfl⟩ (by kernel_rfl) (by kernel_rfl) ?_
      refine rel_move (t := 52) (v := .bool true) rfl ⟨48, by kernel_rfl, by kernel_rfl⟩ (by kernel_rfl) (by kernel_rfl) ?_
      refine rel_skip ⟨53, by kernel_rfl, by kernel_rfl⟩ ?_
      refine rel_val2 (t := 53) (t' := 54) (v1 := .bool true) (v2 := undef) (v := .bool true) ⟨48, by kernel_rfl, by kernel_rfl⟩ (by kernel_rfl) (by kernel_rfl) (by kernel_rfl) (by kernel_rfl) (by intro ρ w hc h1 h2; go_simp) ?_
      refine rel_val2 (t := 51) (t' := 55) (v1 := .bool true) (v2 := .bool true) (v := .bool false) ⟨48, by kernel_rfl, by kernel_rfl⟩ (by kernel_rfl) (by kernel_rfl) (by kernel_rfl) (by kernel_rfl) (by intro ρ w hc h1 h2; go_simp) ?_
      refine rel_val2 (t := 48) (t' := 56) (v1 := .bool false) (v2 := .bool false) (v := .bool false) trivial (by kernel_rfl) (by kernel_rfl) (by kernel_rfl) (by kernel_rfl) (by intro ρ w hc h1 h2; go_simp) ?_
      refine rel_move (t := 57) (v := .bool false) rfl trivial (by kernel_rfl) (by kernel_rfl) ?_
      refine rel_load (t := 12) (g := g12) (D := notR a) ⟨58, by kernel_rfl, by kernel_rfl⟩ (by kernel_rfl) (by kernel_rfl) (fun w h => ⟨_, _, (HB_12.out.ext h).cell0, (HB_12.out.ext h).cell1, HN_12.out.ext h⟩) (by intro ρ w x y h1 h2 h3; go_simp) ?_
      refine rel_move (t := 2) (v := .int .i64 n) rfl ⟨58, by kernel_rfl, by kernel_rfl⟩ (by kernel_rfl) (by kernel_rfl) ?_
      refine rel_call2 (Is (.bool false)) (Is.stable _) ⟨58, by kernel_rfl, by kernel_rfl⟩ (f := 16) (fun u u' => #[u, u']) (t := 59) (t' := 60) (S := (Nms (notR a))) (S' := (Is (.int .i64 n))) (by kernel_rfl) (by kernel_rfl) (by kernel_rfl) (by kernel_rfl) (by intro ρ w hc hf; go_simp) (fun w u u' hE hu hu' => by rw [show u' = .int .i64 n from hu']; exact conB (hasP_any w u (notR a) n hu (Sz.mono (notR_sz (S0.out)) (by decide)) (inr_can (notR_can _)) hn.1 hn.2) (congrArg Value.bool (((hasP_eq _ _)).trans (by rw [has_not, Ht.out, Hx.out] <;> rfl)))) ?_
      refine rel_move (t := 9) (v := .bool true) rfl ⟨58, by kernel_rfl, by kernel_rfl⟩ (by kernel_rfl) (by kernel_rfl) ?_
      refine rel_move (t := 62) (v := .bool true) rfl ⟨58, by kernel_rfl, by kernel_rfl⟩ (by kernel_rfl) (by kernel_rfl) ?_
      refine rel_move (t := 7) (v := .bool true) rfl ⟨63, by kernel_rfl, by kernel_rfl⟩ (by kernel_rfl) (by kernel_rfl) ?_
      refine rel_val1 (t := 64) (v1 := .bool true) (v := .bool false) ⟨63, by kernel_rfl, by kernel_rfl⟩ (by kernel_rfl) (by kernel_rfl) (by intro ρ w hc h1; go_simp) ?_
      refine rel_val2 (t := 63) (t' := 65) (v1 := .bool true) (v2 := .bool false) (v := .bool false) ⟨58, by kernel_rfl, by kernel_rfl⟩ (by kernel_rfl) (by kernel_rfl) (by kernel_rfl) (by kernel_rfl) (by intro ρ w hc h1 h2; go_simp) ?_
      refine rel_val2 (t := 61) (t' := 66) (v1 := .bool false) (v2 := .bool false) (v := .bool false) ⟨58, by kernel_rfl, by kernel_rfl⟩ (by kernel_rfl) (by kernel_rfl) (by kernel_rfl) (by kernel_rfl) (by intro ρ w hc h1 h2; go_simp) ?_
      refine rel_val2 (t := 58) (t' := 67) (v1 := .bool false) (v2 := .bool false) (v := .bool false) trivial (by kernel_rfl) (by kernel_rfl) (by kernel_rfl) (by kernel_rfl) (by intro ρ w hc h1 h2; go_simp) ?_
      refine rel_move (t := 68) (v := .bool false) rfl trivial (by kernel_rfl) (by kernel_rfl) ?_
      refine rel_load (t := 13) (g := g13) (D := minusR a b) ⟨69, by kernel_rfl, by kernel_rfl⟩ (by kernel_rfl) (by kernel_rfl) (fun w h => ⟨_, _, (HB_13.out.ext h).cell0, (HB_13.out.ext h).cell1, HN_13.out.ext h⟩) (by intro ρ w x y h1 h2 h3; go_simp) ?_
      refine rel_move (t := 2) (v := .int .i64 n) rfl ⟨69, by kernel_rfl, by kernel_rfl⟩ (by kernel_rfl) (by kernel_rfl) ?_
      refine rel_call2 (Is (.bool false)) (Is.stable _) ⟨69, by kernel_rfl, by kernel_rfl⟩ (f := 16) (fun u u' => #[u, u']) (t := 70) (t' := 71) (S := (Nms (minusR a b))) (S' := (Is (.int .i64 n))) (by kernel_rfl) (by kernel_rfl) (by kernel_rfl) (by kernel_rfl) (by intro ρ w hc hf; go_simp) (fun w u u' hE hu hu' => by rw [show u' = .int .i64 n from hu']; exact conB (hasP_any w u (minusR a b) n hu (Sz.mono (minusR_sz (S0.out) (S1.out)) (by decide)) (inr_can (minusR_can _ _)) hn.1 hn.2) (congrArg Value.bool (((hasP_eq _ _)).trans (by rw [has_minus, Hx.out, Hy.out] <;> rfl)))) ?_
      refine rel_move (t := 7) (v := .bool true) rfl ⟨69, by kernel_rfl, by kernel_rfl⟩ (by kernel_rfl) (by kernel_rfl) ?_
      refine rel_move (t := 73) (v := .bool true) rfl ⟨69, by kernel_rfl, by kernel_rfl⟩ (by kernel_rfl) (by kernel_rfl) ?_
      refine rel_move (t := 8) (v := .bool true) rfl ⟨74, by kernel_rfl, by kernel_rfl⟩ (by kernel_rfl) (by kernel_rfl) ?_
      refine rel_val1 (t := 75) (v1 := .bool true) (v := .bool false) ⟨74, by kernel_rfl, by kernel_rfl⟩ (by kernel_rfl) (by kernel_rfl) (by intro ρ w hc h1; go_simp) ?_
      refine rel_val2 (t := 74) (t' := 76) (v1 := .bool true) (v2 := .bool false) (v := .bool false) ⟨69, by kernel_rfl, by kernel_rfl⟩ (by kernel_rfl) (by kernel_rfl) (by kernel_rfl) (by kernel_rfl) (by intro ρ w hc h1 h2; go_simp) ?_
      refine rel_val2 (t := 72) (t' := 77) (v1 := .bool false) (v2 := .bool false) (v := .bool false) ⟨69, by kernel_rfl, by kernel_rfl⟩ (by kernel_rfl) (by kernel_rfl) (by kernel_rfl) (by kernel_rfl) (by intro ρ w hc h1 h2; go_simp) ?_
      refine rel_val2 (t := 69) (t' := 78) (v1 := .bool false) (v2 := .bool false) (v := .bool false) trivial (by kernel_rfl) (by kernel_rfl) (by kernel_rfl) (by kernel_rfl) (by intro ρ w hc h1 h2; go_simp) ?_
      refine rel_end (env0 := envL [(2, .int .i64 n), (3, .pointer (some ⟨w.heap.size, 0, none⟩)), (4, .pointer (some ⟨w.heap.size + 1, 0, none⟩)), (7, .bool true), (8, .bool true), (9, .bool true), (10, .pointer (some ⟨g10, 0, none⟩)), (11, .pointer (some ⟨g11, 0, none⟩)), (12, .pointer (some ⟨g12, 0, none⟩)), (13, .pointer (some ⟨g13, 0, none⟩))]) (n := 117) (fun t w' => Knows.env (l := [(2, .int .i64 n), (3, .pointer (some ⟨w.heap.size, 0, none⟩)), (4, .pointer (some ⟨w.heap.size + 1, 0, none⟩)), (7, .bool true), (8, .bool true), (9, .bool true), (10, .pointer (some ⟨g10, 0, none⟩)), (11, .pointer (some ⟨g11, 0, none⟩)), (12, .pointer (some ⟨g12, 0, none⟩)), (13, .pointer (some ⟨g13, 0, none⟩))]) HKc t w') HS2 ?_
      intro a' q' hE' hd' hS' henv'
      exact ⟨rfl, hE', hd'.trans HD2.out, hS', knows_of (henv' 2 (by decide)) (by kernel_rfl), knows_of (henv' 3 (by decide)) (by kernel_rfl), knows_of (henv' 4 (by decide)) (by kernel_rfl), (knows_of (henv' 7 (by decide)) (by kernel_rfl)).trans (show (.bool (hasL a n) : Value) = .bool true from (congrArg Value.bool Hx.out)).symm, (knows_of (henv' 8 (by decide)) (by kernel_rfl)).trans (show (.bool (hasL b n) : Value) = .bool true from (congrArg Value.bool Hy.out)).symm, (knows_of (henv' 9 (by decide)) (by kernel_rfl)).trans (show (.bool (hasL allN n) : Value) = .bool true from (congrArg Value.bool Ht.out)).symm, knows_of (henv' 10 (by decide)) (by kernel_rfl), knows_of (henv' 11 (by decide)) (by kernel_rfl), knows_of (henv' 12 (by decide)) (by kernel_rfl), knows_of (henv' 13 (by decide)) (by kernel_rfl), knows_of (henv' 79 (by decide)) (by kernel_rfl), trivial⟩
    · have Ht := Lib.hid ht
      have Hx := Lib.hid hx
      have Hy := Lib.hid hy
      clear ht hx hy
      have HKc : Knows a2 [(2, .int .i64 n), (3, .pointer (some ⟨w.heap.size, 0, none⟩)), (4, .pointer (some ⟨w.heap.size + 1, 0, none⟩)), (7, .bool true), (8, .bool false), (9, .bool true), (10, .pointer (some ⟨g10, 0, none⟩)), (11, .pointer (some ⟨g11, 0, none⟩)), (12, .pointer (some ⟨g12, 0, none⟩)), (13, .pointer (some ⟨g13, 0, none⟩))] := ⟨HK2.1, HK2.2.1, HK2.2.2.1, HK2.2.2.2.1.trans (show (.bool (hasL a n) : Value) = .bool true from (congrArg Value.bool Hx.out)), HK2.2.2.2.2.1.trans (show (.bool (hasL b n) : Value) = .bool false from (congrArg Value.bool Hy.out)), HK2.2.2.2.2.2.1.trans (show (.bool (hasL allN n) : Value) = .bool true from (congrArg Value.bool Ht.out)), HK2.2.2.2.2.2.2.1, HK2.2.2.2.2.2.2.2.1, HK2.2.2.2.2.2.2.2.2.1, HK2.2.2.2.2.2.2.2.2.2.1, trivial⟩
      refine chain_list (n := 117) (l := [(2, .int .i64 n), (3, .pointer (some ⟨w.heap.size, 0, none⟩)), (4, .pointer (some ⟨w.heap.size + 1, 0, none⟩)), (7, .bool true), (8, .bool false), (9, .bool true), (10, .pointer (some ⟨g10, 0, none⟩)), (11, .pointer (some ⟨g11, 0, none⟩)), (12, .pointer (some ⟨g12, 0, none⟩)), (13, .pointer (some ⟨g13, 0, none⟩))]) HKc HS2 rfl (by kernel_rfl) ?_
      refine rel_load (t := 10) (g := g10) (D := andR a b) trivial (by kernel_rfl) (by kernel_rfl) (fun w h => ⟨_, _, (HB_10.out.ext h).cell0, (HB_10.out.ext h).cell1, HN_10.out.ext h⟩) (by intro ρ w x y h1 h2 h3; go_simp) ?_
      refine rel_move (t := 2) (v := .int .i64 n) rfl trivial (by kernel_rfl) (by kernel_rfl) ?_
      refine rel_call2 (Is (.bool false)) (Is.stable _) trivial (f := 16) (fun u u' => #[u, u']) (t := 40) (t' := 41) (S := (Nms (andR a b))) (S' := (Is (.int .i64 n))) (by kernel_rfl) (by kernel_rfl) (by kernel_rfl) (by kernel_rfl) (by intro ρ w hc hf; go_simp) (fun w u u' hE hu hu' => by rw [show u' = .int .i64 n from hu']; exact conB (hasP_any w u (andR a b) n hu (Sz.mono (andR_sz (S0.out) (S1.out)) (by decide)) (inr_can (andR_can _ _)) hn.1 hn.2) (congrArg Value.bool (((hasP_eq _ _)).trans (by rw [has_and, Hx.out, Hy.out] <;> rfl)))) ?_
      refine rel_move (t := 7) (v := .bool true) rfl trivial (by kernel_rfl) (by kernel_rfl) ?_
      refine rel_move (t := 43) (v := .bool true) rfl trivial (by kernel_rfl) (by kernel_rfl) ?_
      refine rel_move (t := 8) (v := .bool false) rfl ⟨44, by kernel_rfl, by kernel_rfl⟩ (by kernel_rfl) (by kernel_rfl) ?_
      refine rel_val2 (t := 44) (t' := 45) (v1 := .bool true) (v2 := .bool false) (v := .bool false) trivial (by kernel_rfl) (by kernel_rfl) (by kernel_rfl) (by kernel_rfl) (by intro ρ w hc h1 h2; go_simp) ?_
      refine rel_val2 (t := 42) (t' := 46) (v1 := .bool false) (v2 := .bool false) (v := .bool false) trivial (by kernel_rfl) (by kernel_rfl) (by kernel_rfl) (by kernel_rfl) (by intro ρ w hc h1 h2; go_simp) ?_
      refine rel_move (t := 47) (v := .bool false) rfl trivial (by kernel_rfl) (by kernel_rfl) ?_
      refine rel_load (t := 11) (g := g11) (D := orR a b) ⟨48, by kernel_rfl, by kernel_rfl⟩ (by kernel_rfl) (by kernel_rfl) (fun w h => ⟨_, _, (HB_11.out.ext h).cell0, (HB_11.out.ext h).cell1, HN_11.out.ext h⟩) (by intro ρ w x y h1 h2 h3; go_simp) ?_
      refine rel_move (t := 2) (v := .int .i64 n) rfl ⟨48, by kernel_rfl, by kernel_rfl⟩ (by kernel_rfl) (by kernel_rfl) ?_
      refine rel_call2 (Is (.bool true)) (Is.stable _) ⟨48, by kernel_rfl, by kernel_rfl⟩ (f := 16) (fun u u' => #[u, u']) (t := 49) (t' := 50) (S := (Nms (orR a b))) (S' := (Is (.int .i64 n))) (by kernel_rfl) (by kernel_rfl) (by kernel_rfl) (by kernel_rfl) (by intro ρ w hc hf; go_simp) (fun w u u' hE hu hu' => by rw [show u' = .int .i64 n from hu']; exact conB (hasP_any w u (orR a b) n hu (Sz.mono (orR_sz (S0.out) (S1.out)) (by decide)) (inr_can (orR_can _ _)) hn.1 hn.2) (congrArg Value.bool (((hasP_eq _ _)).trans (by rw [has_or, Hx.out, Hy.out] <;> rfl)))) ?_
      refine rel_move (t := 7) (v := .bool true) rfl ⟨48, by kernel_rfl, by kernel_rfl⟩ (by kernel_rfl) (by kernel_rfl) ?_
      refine rel_move (t := 52) (v := .bool true) rfl ⟨48, by kernel_rfl, by kernel_rfl⟩ (by kernel_rfl) (by kernel_rfl) ?_
      refine rel_skip ⟨53, by kernel_rfl, by kernel_rfl⟩ ?_
      refine rel_val2 (t := 53) (t' := 54) (v1 := .bool true) (v2 := undef) (v := .bool true) ⟨48, by kernel_rfl, by kernel_rfl⟩ (by kernel_rfl) (by kernel_rfl) (by kernel_rfl) (by kernel_rfl) (by intro ρ w hc h1 h2; go_simp) ?_
      refine rel_val2 (t := 51) (t' := 55) (v1 := .bool true) (v2 := .bool true) (v := .bool false) ⟨48, by kernel_rfl, by kernel_rfl⟩ (by kernel_rfl) (by kernel_rfl) (by kernel_rfl) (by kernel_rfl) (by intro ρ w hc h1 h2; go_simp) ?_
      refine rel_val2 (t := 48) (t' := 56) (v1 := .bool false) (v2 := .bool false) (v := .bool false) trivial (by kernel_rfl) (by kernel_rfl) (by kernel_rfl) (by kernel_rfl) (by intro ρ w hc h1 h2; go_simp) ?_
      refine rel_move (t := 57) (v := .bool false) rfl trivial (by kernel_rfl) (by kernel_rfl) ?_
      refine rel_load (t := 12) (g := g12) (D := notR a) ⟨58, by kernel_rfl, by kernel_rfl⟩ (by kernel_rfl) (by kernel_rfl) (fun w h => ⟨_, _, (HB_12.out.ext h).cell0, (HB_12.out.ext h).cell1, HN_12.out.ext h⟩) (by intro ρ w x y h1 h2 h3; go_simp) ?_
      refine rel_move (t := 2) (v := .int .i64 n) rfl ⟨58, by kernel_rfl, by kernel_rfl⟩ (by kernel_rfl) (by kernel_rfl) ?_
      refine rel_call2 (Is (.bool false)) (Is.stable _) ⟨58, by kernel_rfl, by kernel_rfl⟩ (f := 16) (fun u u' => #[u, u']) (t := 59) (t' := 60) (S := (Nms (notR a))) (S' := (Is (.int .i64 n))) (by kernel_rfl) (by kernel_rfl) (by kernel_rfl) (by kernel_rfl) (by intro ρ w hc hf; go_simp) (fun w u u' hE hu hu' => by rw [show u' = .int .i64 n from hu']; exact conB (hasP_any w u (notR a) n hu (Sz.mono (notR_sz (S0.out)) (by decide)) (inr_can (notR_can _)) hn.1 hn.2) (congrArg Value.bool (((hasP_eq _ _)).trans (by rw [has_not, Ht.out, Hx.out] <;> rfl)))) ?_
      refine rel_move (t := 9) (v := .bool true) rfl ⟨58, by kernel_rfl, by kernel_rfl⟩ (by kernel_rfl) (by kernel_rfl) ?_
      refine rel_move (t := 62) (v := .bool true) rfl ⟨58, by kernel_rfl, by kernel_rfl⟩ (by kernel_rfl) (by kernel_rfl) ?_
      refine rel_move (t := 7) (v := .bool true) rfl ⟨63, by kernel_rfl, by kernel_rfl⟩ (by kernel_rfl) (by kernel_rfl) ?_
      refine rel_val1 (t := 64) (v1 := .bool true) (v := .bool false) ⟨63, by kernel_rfl, by kernel_rfl⟩ (by kernel_rfl) (by kernel_rfl) (by intro ρ w hc h1; go_simp) ?_
      refine rel_val2 (t := 63) (t' := 65) (v1 := .bool true) (v2 := .bool false) (v := .bool false) ⟨58, by kernel_rfl, by kernel_rfl⟩ (by kernel_rfl) (by kernel_rfl) (by kernel_rfl) (by kernel_rfl) (by intro ρ w hc h1 h2; go_simp) ?_
      refine rel_val2 (t := 61) (t' := 66) (v1 := .bool false) (v2 := .bool false) (v := .bool false) ⟨58, by kernel_rfl, by kernel_rfl⟩ (by kernel_rfl) (by kernel_rfl) (by kernel_rfl) (by kernel_rfl) (by intro ρ w hc h1 h2; go_simp) ?_
      refine rel_val2 (t := 58) (t' := 67) (v1 := .bool false) (v2 := .bool false) (v := .bool false) trivial (by kernel_rfl) (by kernel_rfl) (by kernel_rfl) (by kernel_rfl) (by intro ρ w hc h1 h2; go_simp) ?_
      refine rel_move (t := 68) (v := .bool false) rfl trivial (by kernel_rfl) (by kernel_rfl) ?_
      refine rel_load (t := 13) (g := g13) (D := minusR a b) ⟨69, by kernel_rfl, by kernel_rfl⟩ (by kernel_rfl) (by kernel_rfl) (fun w h => ⟨_, _, (HB_13.out.ext h).cell0, (HB_13.out.ext h).cell1, HN_13.out.ext h⟩) (by intro ρ w x y h1 h2 h3; go_simp) ?_
      refine rel_move (t := 2) (v := .int .i64 n) rfl ⟨69, by kernel_rfl, by kernel_rfl⟩ (by kernel_rfl) (by kernel_rfl) ?_
      refine rel_call2 (Is (.bool true)) (Is.stable _) ⟨69, by kernel_rfl, by kernel_rfl⟩ (f := 16) (fun u u' => #[u, u']) (t := 70) (t' := 71) (S := (Nms (minusR a b))) (S' := (Is (.int .i64 n))) (by kernel_rfl) (by kernel_rfl) (by kernel_rfl) (by kernel_rfl) (by intro ρ w hc hf; go_simp) (fun w u u' hE hu hu' => by rw [show u' = .int .i64 n from hu']; exact conB (hasP_any w u (minusR a b) n hu (Sz.mono (minusR_sz (S0.out) (S1.out)) (by decide)) (inr_can (minusR_can _ _)) hn.1 hn.2) (congrArg Value.bool (((hasP_eq _ _)).trans (by rw [has_minus, Hx.out, Hy.out] <;> rfl)))) ?_
      refine rel_move (t := 7) (v := .bool true) rfl ⟨69, by kernel_rfl, by kernel_rfl⟩ (by kernel_rfl) (by kernel_rfl) ?_
      refine rel_move (t := 73) (v := .bool true) rfl ⟨69, by kernel_rfl, by kernel_rfl⟩ (by kernel_rfl) (by kernel_rfl) ?_
      refine rel_move (t := 8) (v := .bool false) rfl ⟨74, by kernel_rfl, by kernel_rfl⟩ (by kernel_rfl) (by kernel_rfl) ?_
      refine rel_val1 (t := 75) (v1 := .bool false) (v := .bool true) ⟨74, by kernel_rfl, by kernel_rfl⟩ (by kernel_rfl) (by kernel_rfl) (by intro ρ w hc h1; go_simp) ?_
      refine rel_val2 (t := 74) (t' := 76) (v1 := .bool true) (v2 := .bool true) (v := .bool true) ⟨69, by kernel_rfl, by kernel_rfl⟩ (by kernel_rfl) (by kernel_rfl) (by kernel_rfl) (by kernel_rfl) (by intro ρ w hc h1 h2; go_simp) ?_
      refine rel_val2 (t := 72) (t' := 77) (v1 := .bool true) (v2 := .bool true) (v := .bool false) ⟨69, by kernel_rfl, by kernel_rfl⟩ (by kernel_rfl) (by kernel_rfl) (by kernel_rfl) (by kernel_rfl) (by intro ρ w hc h1 h2; go_simp) ?_
      refine rel_val2 (t := 69) (t' := 78) (v1 := .bool false) (v2 := .bool false) (v := .bool false) trivial (by kernel_rfl) (by kernel_rfl) (by kernel_rfl) (by kernel_rfl) (by intro ρ w hc h1 h2; go_simp) ?_
      refine rel_end (env0 := envL [(2, .int .i64 n), (3, .pointer (some ⟨w.heap.size, 0, none⟩)), (4, .pointer (some ⟨w.heap.size + 1, 0, none⟩)), (7, .bool true), (8, .bool false), (9, .bool true), (10, .pointer (some ⟨g10, 0, none⟩)), (11, .pointer (some ⟨g11, 0, none⟩)), (12, .pointer (some ⟨g12, 0, none⟩)), (13, .pointer (some ⟨g13, 0, none⟩))]) (n := 117) (fun t w' => Knows.env (l := [(2, .int .i64 n), (3, .pointer (some ⟨w.heap.size, 0, none⟩)), (4, .pointer (some ⟨w.heap.size + 1, 0, none⟩)), (7, .bool true), (8, .bool false), (9, .bool true), (10, .pointer (some ⟨g10, 0, none⟩)), (11, .pointer (some ⟨g11, 0, none⟩)), (12, .pointer (some ⟨g12, 0, none⟩)), (13, .pointer (some ⟨g13, 0, none⟩))]) HKc t w') HS2 ?_
      intro a' q' hE' hd' hS' henv'
      exact ⟨rfl, hE', hd'.trans HD2.out, hS', knows_of (henv' 2 (by decide)) (by kernel_rfl), knows_of (henv' 3 (by decide)) (by kernel_rfl), knows_of (henv' 4 (by decide)) (by kernel_rfl), (knows_of (henv' 7 (by decide)) (by kernel_rfl)).trans (show (.bool (hasL a n) : Value) = .bool true from (congrArg Value.bool Hx.out)).symm, (knows_of (henv' 8 (by decide)) (by kernel_rfl)).trans (show (.bool (hasL b n) : Value) = .bool false from (congrArg Value.bool Hy.out)).symm, (knows_of (henv' 9 (by decide)) (by kernel_rfl)).trans (show (.bool (hasL allN n) : Value) = .bool true from (congrArg Value.bool Ht.out)).symm, knows_of (henv' 10 (by decide)) (by kernel_rfl), knows_of (henv' 11 (by decide)) (by kernel_rfl), knows_of (henv' 12 (by decide)) (by kernel_rfl), knows_of (henv' 13 (by decide)) (by kernel_rfl), knows_of (henv' 79 (by decide)) (by kernel_rfl), trivial⟩
    · have Ht := Lib.hid ht
      have Hx := Lib.hid hx
      have Hy := Lib.hid hy
      clear ht hx hy
      have HKc : Knows a2 [(2, .int .i64 n), (3, .pointer (some ⟨w.heap.size, 0, none⟩)), (4, .pointer (some ⟨w.heap.size + 1, 0, none⟩)), (7, .bool false), (8, .bool true), (9, .bool true), (10, .pointer (some ⟨g10, 0, none⟩)), (11, .pointer (some ⟨g11, 0, none⟩)), (12, .pointer (some ⟨g12, 0, none⟩)), (13, .pointer (some ⟨g13, 0, none⟩))] := ⟨HK2.1, HK2.2.1, HK2.2.2.1, HK2.2.2.2.1.trans (show (.bool (hasL a n) : Value) = .bool false from (congrArg Value.bool Hx.out)), HK2.2.2.2.2.1.trans (show (.bool (hasL b n) : Value) = .bool true from (congrArg Value.bool Hy.out)), HK2.2.2.2.2.2.1.trans (show (.bool (hasL allN n) : Value) = .bool true from (congrArg Value.bool Ht.out)), HK2.2.2.2.2.2.2.1, HK2.2.2.2.2.2.2.2.1, HK2.2.2.2.2.2.2.2.2.1, HK2.2.2.2.2.2.2.2.2.2.1, trivial⟩
      refine chain_list (n := 117) (l := [(2, .int .i64 n), (3, .pointer (some ⟨w.heap.size, 0, none⟩)), (4, .pointer (some ⟨w.heap.size + 1, 0, none⟩)), (7, .bool false), (8, .bool true), (9, .bool true), (10, .pointer (some ⟨g10, 0, none⟩)), (11, .pointer (some ⟨g11, 0, none⟩)), (12, .pointer (some ⟨g12, 0, none⟩)), (13, .pointer (some ⟨g13, 0, none⟩))]) HKc HS2 rfl (by kernel_rfl) ?_
      refine rel_load (t := 10) (g := g10) (D := andR a b) trivial (by kernel_rfl) (by kernel_rfl) (fun w h => ⟨_, _, (HB_10.out.ext h).cell0, (HB_10.out.ext h).cell1, HN_10.out.ext h⟩) (by intro ρ w x y h1 h2 h3; go_simp) ?_
      refine rel_move (t := 2) (v := .int .i64 n) rfl trivial (by kernel_rfl) (by kernel_rfl) ?_
      refine rel_call2 (Is (.bool false)) (Is.stable _) trivial (f := 16) (fun u u' => #[u, u']) (t := 40) (t' := 41) (S := (Nms (andR a b))) (S' := (Is (.int .i64 n))) (by kernel_rfl) (by kernel_rfl) (by kernel_rfl) (by kernel_rfl) (by intro ρ w hc hf; go_simp) (fun w u u' hE hu hu' => by rw [show u' = .int .i64 n from hu']; exact conB (hasP_any w u (andR a b) n hu (Sz.mono (andR_sz (S0.out) (S1.out)) (by decide)) (inr_can (andR_can _ _)) hn.1 hn.2) (congrArg Value.bool (((hasP_eq _ _)).trans (by rw [has_and, Hx.out, Hy.out] <;> rfl)))) ?_
      refine rel_move (t := 7) (v := .bool false) rfl trivial (by kernel_rfl) (by kernel_rfl) ?_
      refine rel_move (t := 43) (v := .bool false) rfl trivial (by kernel_rfl) (by kernel_rfl) ?_
      refine rel_skip ⟨44, by kernel_rfl, by kernel_rfl⟩ ?_
      refine rel_val2 (t := 44) (t' := 45) (v1 := .bool false) (v2 := undef) (v := .bool false) trivial (by kernel_rfl) (by kernel_rfl) (by kernel_rfl) (by kernel_rfl) (by intro ρ w hc h1 h2; go_simp) ?_
      refine rel_val2 (t := 42) (t' := 46) (v1 := .bool false) (v2 := .bool false) (v := .bool false) trivial (by kernel_rfl) (by kernel_rfl) (by kernel_rfl) (by kernel_rfl) (by intro ρ w hc h1 h2; go_simp) ?_
      refine rel_move (t := 47) (v := .bool false) rfl trivial (by kernel_rfl) (by kernel_rfl) ?_
      refine rel_load (t := 11) (g := g11) (D := orR a b) ⟨48, by kernel_rfl, by kernel_rfl⟩ (by kernel_rfl) (by kernel_rfl) (fun w h => ⟨_, _, (HB_11.out.ext h).cell0, (HB_11.out.ext h).cell1, HN_11.out.ext h⟩) (by intro ρ w x y h1 h2 h3; go_simp) ?_
      refine rel_move (t := 2) (v := .int .i64 n) rfl ⟨48, by kernel_rfl, by kernel_rfl⟩ (by kernel_rfl) (by kernel_rfl) ?_
      refine rel_call2 (Is (.bool true)) (Is.stable _) ⟨48, by kernel_rfl, by kernel_rfl⟩ (f := 16) (fun u u' => #[u, u']) (t := 49) (t' := 50) (S := (Nms (orR a b))) (S' := (Is (.int .i64 n))) (by kernel_rfl) (by kernel_rfl) (by kernel_rfl) (by kernel_rfl) (by intro ρ w hc hf; go_simp) (fun w u u' hE hu hu' => by rw [show u' = .int .i64 n from hu']; exact conB (hasP_any w u (orR a b) n hu (Sz.mono (orR_sz (S0.out) (S1.out)) (by decide)) (inr_can (orR_can _ _)) hn.1 hn.2) (congrArg Value.bool (((hasP_eq _ _)).trans (by rw [has_or, Hx.out, Hy.out] <;> rfl)))) ?_
      refine rel_move (t := 7) (v := .bool false) rfl ⟨48, by kernel_rfl, by kernel_rfl⟩ (by kernel_rfl) (by kernel_rfl) ?_
      refine rel_move (t := 52) (v := .bool false) rfl ⟨48, by kernel_rfl, by kernel_rfl⟩ (by kernel_rfl) (by kernel_rfl) ?_
      refine rel_move (t := 8) (v := .bool true) rfl ⟨53, by kernel_rfl, by kernel_rfl⟩ (by kernel_rfl) (by kernel_rfl) ?_
      refine rel_val2 (t := 53) (t' := 54) (v1 := .bool false) (v2 := .bool true) (v := .bool true) ⟨48, by kernel_rfl, by kernel_rfl⟩ (by kernel_rfl) (by kernel_rfl) (by kernel_rfl) (by kernel_rfl) (by intro ρ w hc h1 h2; go_simp) ?_
      refine rel_val2 (t := 51) (t' := 55) (v1 := .bool true) (v2 := .bool true) (v := .bool false) ⟨48, by kernel_rfl, by kernel_rfl⟩ (by kernel_rfl) (by kernel_rfl) (by kernel_rfl) (by kernel_rfl) (by intro ρ w hc h1 h2; go_simp) ?_
      refine rel_val2 (t := 48) (t' := 56) (v1 := .bool false) (v2 := .bool false) (v := .bool false) trivial (by kernel_rfl) (by kernel_rfl) (by kernel_rfl) (by kernel_rfl) (by intro ρ w hc h1 h2; go_simp) ?_
      refine rel_move (t := 57) (v := .bool false) rfl trivial (by kernel_rfl) (by kernel_rfl) ?_
      refine rel_load (t := 12) (g := g12) (D := notR a) ⟨58, by kernel_rfl, by kernel_rfl⟩ (by kernel_rfl) (by kernel_rfl) (fun w h => ⟨_, _, (HB_12.out.ext h).cell0, (HB_12.out.ext h).cell1, HN_12.out.ext h⟩) (by intro ρ w x y h1 h2 h3; go_simp) ?_
      refine rel_move (t := 2) (v := .int .i64 n) rfl ⟨58, by kernel_rfl, by kernel_rfl⟩ (by kernel_rfl) (by kernel_rfl) ?_
      refine rel_call2 (Is (.bool true)) (Is.stable _) ⟨58, by kernel_rfl, by kernel_rfl⟩ (f := 16) (fun u u' => #[u, u']) (t := 59) (t' := 60) (S := (Nms (notR a))) (S' := (Is (.int .i64 n))) (by kernel_rfl) (by kernel_rfl) (by kernel_rfl) (by kernel_rfl) (by intro ρ w hc hf; go_simp) (fun w u u' hE hu hu' => by rw [show u' = .int .i64 n from hu']; exact conB (hasP_any w u (notR a) n hu (Sz.mono (notR_sz (S0.out)) (by decide)) (inr_can (notR_can _)) hn.1 hn.2) (congrArg Value.bool (((hasP_eq _ _)).trans (by rw [has_not, Ht.out, Hx.out] <;> rfl)))) ?_
      refine rel_move (t := 9) (v := .bool true) rfl ⟨58, by kernel_rfl, by kernel_rfl⟩ (by kernel_rfl) (by kernel_rfl) ?_
      refine rel_move (t := 62) (v := .bool true) rfl ⟨58, by kernel_rfl, by kernel_rfl⟩ (by kernel_rfl) (by kernel_rfl) ?_
      refine rel_move (t := 7) (v := .bool false) rfl ⟨63, by kernel_rfl, by kernel_rfl⟩ (by kernel_rfl) (by kernel_rfl) ?_
      refine rel_val1 (t := 64) (v1 := .bool false) (v := .bool true) ⟨63, by kernel_rfl, by kernel_rfl⟩ (by kernel_rfl) (by kernel_rfl) (by intro ρ w hc h1; go_simp) ?_
      refine rel_val2 (t := 63) (t' := 65) (v1 := .bool true) (v2 := .bool true) (v := .bool true) ⟨58, by kernel_rfl, by kernel_rfl⟩ (by kernel_rfl) (by kernel_rfl) (by kernel_rfl) (by kernel_rfl) (by intro ρ w hc h1 h2; go_simp) ?_
      refine rel_val2 (t := 61) (t' := 66) (v1 := .bool true) (v2 := .bool true) (v := .bool false) ⟨58, by kernel_rfl, by kernel_rfl⟩ (by kernel_rfl) (by kernel_rfl) (by kernel_rfl) (by kernel_rfl) (by intro ρ w hc h1 h2; go_simp) ?_
      refine rel_val2 (t := 58) (t' := 67) (v1 := .bool false) (v2 := .bool false) (v := .bool false) trivial (by kernel_rfl) (by kernel_rfl) (by kernel_rfl) (by kernel_rfl) (by intro ρ w hc h1 h2; go_simp) ?_
      refine rel_move (t := 68) (v := .bool false) rfl trivial (by kernel_rfl) (by kernel_rfl) ?_
      refine rel_load (t := 13) (g := g13) (D := minusR a b) ⟨69, by kernel_rfl, by kernel_rfl⟩ (by kernel_rfl) (by kernel_rfl) (fun w h => ⟨_, _, (HB_13.out.ext h).cell0, (HB_13.out.ext h).cell1, HN_13.out.ext h⟩) (by intro ρ w x y h1 h2 h3; go_simp) ?_
      refine rel_move (t := 2) (v := .int .i64 n) rfl ⟨69, by kernel_rfl, by kernel_rfl⟩ (by kernel_rfl) (by kernel_rfl) ?_
      refine rel_call2 (Is (.bool false)) (Is.stable _) ⟨69, by kernel_rfl, by kernel_rfl⟩ (f := 16) (fun u u' => #[u, u']) (t := 70) (t' := 71) (S := (Nms (minusR a b))) (S' := (Is (.int .i64 n))) (by kernel_rfl) (by kernel_rfl) (by kernel_rfl) (by kernel_rfl) (by intro ρ w hc hf; go_simp) (fun w u u' hE hu hu' => by rw [show u' = .int .i64 n from hu']; exact conB (hasP_any w u (minusR a b) n hu (Sz.mono (minusR_sz (S0.out) (S1.out)) (by decide)) (inr_can (minusR_can _ _)) hn.1 hn.2) (congrArg Value.bool (((hasP_eq _ _)).trans (by rw [has_minus, Hx.out, Hy.out] <;> rfl)))) ?_
      refine rel_move (t := 7) (v := .bool false) rfl ⟨69, by kernel_rfl, by kernel_rfl⟩ (by kernel_rfl) (by kernel_rfl) ?_
      refine rel_move (t := 73) (v := .bool false) rfl ⟨69, by kernel_rfl, by kernel_rfl⟩ (by kernel_rfl) (by kernel_rfl) ?_
      refine rel_skip ⟨74, by kernel_rfl, by kernel_rfl⟩ ?_
      refine rel_skip ⟨74, by kernel_rfl, by kernel_rfl⟩ ?_
      refine rel_val2 (t := 74) (t' := 76) (v1 := .bool false) (v2 := undef) (v := .bool false) ⟨69, by kernel_rfl, by kernel_rfl⟩ (by kernel_rfl) (by kernel_rfl) (by kernel_rfl) (by kernel_rfl) (by intro ρ w hc h1 h2; go_simp) ?_
      refine rel_val2 (t := 72) (t' := 77) (v1 := .bool false) (v2 := .bool false) (v := .bool false) ⟨69, by kernel_rfl, by kernel_rfl⟩ (by kernel_rfl) (by kernel_rfl) (by kernel_rfl) (by kernel_rfl) (by intro ρ w hc h1 h2; go_simp) ?_
      refine rel_val2 (t := 69) (t' := 78) (v1 := .bool false) (v2 := .bool false) (v := .bool false) trivial (by kernel_rfl) (by kernel_rfl) (by kernel_rfl) (by kernel_rfl) (by intro ρ w hc h1 h2; go_simp) ?_
      refine rel_end (env0 := envL [(2, .int .i64 n), (3, .pointer (some ⟨w.heap.size, 0, none⟩)), (4, .pointer (some ⟨w.heap.size + 1, 0, none⟩)), (7, .bool false), (8, .bool true), (9, .bool true), (10, .pointer (some ⟨g10, 0, none⟩)), (11, .pointer (some ⟨g11, 0, none⟩)), (12, .pointer (some ⟨g12, 0, none⟩)), (13, .pointer (some ⟨g13, 0, none⟩))]) (n := 117) (fun t w' => Knows.env (l := [(2, .int .i64 n), (3, .pointer (some ⟨w.heap.size, 0, none⟩)), (4, .pointer (some ⟨w.heap.size + 1, 0, none⟩)), (7, .bool false), (8, .bool true), (9, .bool true), (10, .pointer (some ⟨g10, 0, none⟩)), (11, .pointer (some ⟨g11, 0, none⟩)), (12, .pointer (some ⟨g12, 0, none⟩)), (13, .pointer (some ⟨g13, 0, none⟩))]) HKc t w') HS2 ?_
      intro a' q' hE' hd' hS' henv'
      exact ⟨rfl, hE', hd'.trans HD2.out, hS', knows_of (henv' 2 (by decide)) (by kernel_rfl), knows_of (henv' 3 (by decide)) (by kernel_rfl), knows_of (henv' 4 (by decide)) (by kernel_rfl), (knows_of (henv' 7 (by decide)) (by kernel_rfl)).trans (show (.bool (hasL a n) : Value) = .bool false from (congrArg Value.bool Hx.out)).symm, (knows_of (henv' 8 (by decide)) (by kernel_rfl)).trans (show (.bool (hasL b n) : Value) = .bool true from (congrArg Value.bool Hy.out)).symm, (knows_of (henv' 9 (by decide)) (by kernel_rfl)).trans (show (.bool (hasL allN n) : Value) = .bool true from (congrArg Value.bool Ht.out)).symm, knows_of (henv' 10 (by decide)) (by kernel_rfl), knows_of (henv' 11 (by decide)) (by kernel_rfl), knows_of (henv' 12 (by decide)) (by kernel_rfl), knows_of (henv' 13 (by decide)) (by kernel_rfl), knows_of (henv' 79 (by decide)) (by kernel_rfl), trivial⟩
    · have Ht := Lib.hid ht
      have Hx := Lib.hid hx
      have Hy := Lib.hid hy
      clear ht hx hy
      have HKc : Knows a2 [(2, .int .i64 n), (3, .pointer (some ⟨w.heap.size, 0, none⟩)), (4, .pointer (some ⟨w.heap.size + 1, 0, none⟩)), (7, .bool false), (8, .bool false), (9, .bool true), (10, .pointer (some ⟨g10, 0, none⟩)), (11, .pointer (some ⟨g11, 0, none⟩)), (12, .pointer (some ⟨g12, 0, none⟩)), (13, .pointer (some ⟨g13, 0, none⟩))] := ⟨HK2.1, HK2.2.1, HK2.2.2.1, HK2.2.2.2.1.trans (show (.bool (hasL a n) : Value) = .bool false from (congrArg Value.bool Hx.out)), HK2.2.2.2.2.1.trans (show (.bool (hasL b n) : Value) = .bool false from (congrArg Value.bool Hy.out)), HK2.2.2.2.2.2.1.trans (show (.bool (hasL allN n) : Value) = .bool true from (congrArg Value.bool Ht.out)), HK2.2.2.2.2.2.2.1, HK2.2.2.2.2.2.2.2.1, HK2.2.2.2.2.2.2.2.2.1, HK2.2.2.2.2.2.2.2.2.2.1, trivial⟩
      refine chain_list (n := 117) (l := [(2, .int .i64 n), (3, .pointer (some ⟨w.heap.size, 0, none⟩)), (4, .pointer (some ⟨w.heap.size + 1, 0, none⟩)), (7, .bool false), (8, .bool false), (9, .bool true), (10, .pointer (some ⟨g10, 0, none⟩)), (11, .pointer (some ⟨g11, 0, none⟩)), (12, .pointer (some ⟨g12, 0, none⟩)), (13, .pointer (some ⟨g13, 0, none⟩))]) HKc HS2 rfl (by kernel_rfl) ?_
      refine rel_load (t := 10) (g := g10) (D := andR a b) trivial (by kernel_rfl) (by kernel_rfl) (fun w h => ⟨_, _, (HB_10.out.ext h).cell0, (HB_10.out.ext h).cell1, HN_10.out.ext h⟩) (by intro ρ w x y h1 h2 h3; go_simp) ?_
      refine rel_move (t := 2) (v := .int .i64 n) rfl trivial (by kernel_rfl) (by kernel_rfl) ?_
      refine rel_call2 (Is (.bool false)) (Is.stable _) trivial (f := 16) (fun u u' => #[u, u']) (t := 40) (t' := 41) (S := (Nms (andR a b))) (S' := (Is (.int .i64 n))) (by kernel_rfl) (by kernel_rfl) (by kernel_rfl) (by kernel_rfl) (by intro ρ w hc hf; go_simp) (fun w u u' hE hu hu' => by rw [show u' = .int .i64 n from hu']; exact conB (hasP_any w u (andR a b) n hu (Sz.mono (andR_sz (S0.out) (S1.out)) (by decide)) (inr_can (andR_can _ _)) hn.1 hn.2) (congrArg Value.bool (((hasP_eq _ _)).trans (by rw [has_and, Hx.out, Hy.out] <;> rfl)))) ?_
      refine rel_move (t := 7) (v := .bool false) rfl trivial (by kernel_rfl) (by kernel_rfl) ?_
      refine rel_move (t := 43) (v := .bool false) rfl trivial (by kernel_rfl) (by kernel_rfl) ?_
      refine rel_skip ⟨44, by kernel_rfl, by kernel_rfl⟩ ?_
      refine rel_val2 (t := 44) (t' := 45) (v1 := .bool false) (v2 := undef) (v := .bool false) trivial (by kernel_rfl) (by kernel_rfl) (by kernel_rfl) (by kernel_rfl) (by intro ρ w hc h1 h2; go_simp) ?_
      refine rel_val2 (t := 42) (t' := 46) (v1 := .bool false) (v2 := .bool false) (v := .bool false) trivial (by kernel_rfl) (by kernel_rfl) (by kernel_rfl) (by kernel_rfl) (by intro ρ w hc h1 h2; go_simp) ?_
      refine rel_move (t := 47) (v := .bool false) rfl trivial (by kernel_rfl) (by kernel_rfl) ?_
      refine rel_load (t := 11) (g := g11) (D := orR a b) ⟨48, by kernel_rfl, by kernel_rfl⟩ (by kernel_rfl) (by kernel_rfl) (fun w h => ⟨_, _, (HB_11.out.ext h).cell0, (HB_11.out.ext h).cell1, HN_11.out.ext h⟩) (by intro ρ w x y h1 h2 h3; go_simp) ?_
      refine rel_move (t := 2) (v := .int .i64 n) rfl ⟨48, by kernel_rfl, by kernel_rfl⟩ (by kernel_rfl) (by kernel_rfl) ?_
      refine rel_call2 (Is (.bool false)) (Is.stable _) ⟨48, by kernel_rfl, by kernel_rfl⟩ (f := 16) (fun u u' => #[u, u']) (t := 49) (t' := 50) (S := (Nms (orR a b))) (S' := (Is (.int .i64 n))) (by kernel_rfl) (by kernel_rfl) (by kernel_rfl) (by kernel_rfl) (by intro ρ w hc hf; go_simp) (fun w u u' hE hu hu' => by rw [show u' = .int .i64 n from hu']; exact conB (hasP_any w u (orR a b) n hu (Sz.mono (orR_sz (S0.out) (S1.out)) (by decide)) (inr_can (orR_can _ _)) hn.1 hn.2) (congrArg Value.bool (((hasP_eq _ _)).trans (by rw [has_or, Hx.out, Hy.out] <;> rfl)))) ?_
      refine rel_move (t := 7) (v := .bool false) rfl ⟨48, by kernel_rfl, by kernel_rfl⟩ (by kernel_rfl) (by kernel_rfl) ?_
      refine rel_move (t := 52) (v := .bool false) rfl ⟨48, by kernel_rfl, by kernel_rfl⟩ (by kernel_rfl) (by kernel_rfl) ?_
      refine rel_move (t := 8) (v := .bool false) rfl ⟨53, by kernel_rfl, by kernel_rfl⟩ (by kernel_rfl) (by kernel_rfl) ?_
      refine rel_val2 (t := 53) (t' := 54) (v1 := .bool false) (v2 := .bool false) (v := .bool false) ⟨48, by kernel_rfl, by kernel_rfl⟩ (by kernel_rfl) (by kernel_rfl) (by kernel_rfl) (by kernel_rfl) (by intro ρ w hc h1 h2; go_simp) ?_
      refine rel_val2 (t := 51) (t' := 55) (v1 := .bool false) (v2 := .bool false) (v := .bool false) ⟨48, by kernel_rfl, by kernel_rfl⟩ (by kernel_rfl) (by kernel_rfl) (by kernel_rfl) (by kernel_rfl) (by intro ρ w hc h1 h2; go_simp) ?_
      refine rel_val2 (t := 48) (t' := 56) (v1 := .bool false) (v2 := .bool false) (v := .bool false) trivial (by kernel_rfl) (by kernel_rfl) (by kernel_rfl) (by kernel_rfl) (by intro ρ w hc h1 h2; go_simp) ?_
      refine rel_move (t := 57) (v := .bool false) rfl trivial (by kernel_rfl) (by kernel_rfl) ?_
      refine rel_load (t := 12) (g := g12) (D := notR a) ⟨58, by kernel_rfl, by kernel_rfl⟩ (by kernel_rfl) (by kernel_rfl) (fun w h => ⟨_, _, (HB_12.out.ext h).cell0, (HB_12.out.ext h).cell1, HN_12.out.ext h⟩) (by intro ρ w x y h1 h2 h3; go_simp) ?_
      refine rel_move (t := 2) (v := .int .i64 n) rfl ⟨58, by kernel_rfl, by kernel_rfl⟩ (by kernel_rfl) (by kernel_rfl) ?_
      refine rel_call2 (Is (.bool true)) (Is.stable _) ⟨58, by kernel_rfl, by kernel_rfl⟩ (f := 16) (fun u u' => #[u, u']) (t := 59) (t' := 60) (S := (Nms (notR a))) (S' := (Is (.int .i64 n))) (by kernel_rfl) (by kernel_rfl) (by kernel_rfl) (by kernel_rfl) (by intro ρ w hc hf; go_simp) (fun w u u' hE hu hu' => by rw [show u' = .int .i64 n from hu']; exact conB (hasP_any w u (notR a) n hu (Sz.mono (notR_sz (S0.out)) (by decide)) (inr_can (notR_can _)) hn.1 hn.2) (congrArg Value.bool (((hasP_eq _ _)).trans (by rw [has_not, Ht.out, Hx.out] <;> rfl)))) ?_
      refine rel_move (t := 9) (v := .bool true) rfl ⟨58, by kernel_rfl, by kernel_rfl⟩ (by kernel_rfl) (by kernel_rfl) ?_
      refine rel_move (t := 62) (v := .bool true) rfl ⟨58, by kernel_rfl, by kernel_rfl⟩ (by kernel_rfl) (by kernel_rfl) ?_
      refine rel_move (t := 7) (v := .bool false) rfl ⟨63, by kernel_rfl, by kernel_rfl⟩ (by kernel_rfl) (by kernel_rfl) ?_
      refine rel_val1 (t := 64) (v1 := .bool false) (v := .bool true) ⟨63, by kernel_rfl, by kernel_rfl⟩ (by kernel_rfl) (by kernel_rfl) (by intro ρ w hc h1; go_simp) ?_
      refine rel_val2 (t := 63) (t' := 65) (v1 := .bool true) (v2 := .bool true) (v := .bool true) ⟨58, by kernel_rfl, by kernel_rfl⟩ (by kernel_rfl) (by kernel_rfl) (by kernel_rfl) (by kernel_rfl) (by intro ρ w hc h1 h2; go_simp) ?_
      refine rel_val2 (t := 61) (t' := 66) (v1 := .bool true) (v2 := .bool true) (v := .bool false) ⟨58, by kernel_rfl, by kernel_rfl⟩ (by kernel_rfl) (by kernel_rfl) (by kernel_rfl) (by kernel_rfl) (by intro ρ w hc h1 h2; go_simp) ?_
      refine rel_val2 (t := 58) (t' := 67) (v1 := .bool false) (v2 := .bool false) (v := .bool false) trivial (by kernel_rfl) (by kernel_rfl) (by kernel_rfl) (by kernel_rfl) (by intro ρ w hc h1 h2; go_simp) ?_
      refine rel_move (t := 68) (v := .bool false) rfl trivial (by kernel_rfl) (by kernel_rfl) ?_
      refine rel_load (t := 13) (g := g13) (D := minusR a b) ⟨69, by kernel_rfl, by kernel_rfl⟩ (by kernel_rfl) (by kernel_rfl) (fun w h => ⟨_, _, (HB_13.out.ext h).cell0, (HB_13.out.ext h).cell1, HN_13.out.ext h⟩) (by intro ρ w x y h1 h2 h3; go_simp) ?_
      refine rel_move (t := 2) (v := .int .i64 n) rfl ⟨69, by kernel_rfl, by kernel_rfl⟩ (by kernel_rfl) (by kernel_rfl) ?_
      refine rel_call2 (Is (.bool false)) (Is.stable _) ⟨69, by kernel_rfl, by kernel_rfl⟩ (f := 16) (fun u u' => #[u, u']) (t := 70) (t' := 71) (S := (Nms (minusR a b))) (S' := (Is (.int .i64 n))) (by kernel_rfl) (by kernel_rfl) (by kernel_rfl) (by kernel_rfl) (by intro ρ w hc hf; go_simp) (fun w u u' hE hu hu' => by rw [show u' = .int .i64 n from hu']; exact conB (hasP_any w u (minusR a b) n hu (Sz.mono (minusR_sz (S0.out) (S1.out)) (by decide)) (inr_can (minusR_can _ _)) hn.1 hn.2) (congrArg Value.bool (((hasP_eq _ _)).trans (by rw [has_minus, Hx.out, Hy.out] <;> rfl)))) ?_
      refine rel_move (t := 7) (v := .bool false) rfl ⟨69, by kernel_rfl, by kernel_rfl⟩ (by kernel_rfl) (by kernel_rfl) ?_
      refine rel_move (t := 73) (v := .bool false) rfl ⟨69, by kernel_rfl, by kernel_rfl⟩ (by kernel_rfl) (by kernel_rfl) ?_
      refine rel_skip ⟨74, by kernel_rfl, by kernel_rfl⟩ ?_
      refine rel_skip ⟨74, by kernel_rfl, by kernel_rfl⟩ ?_
      refine rel_val2 (t := 74) (t' := 76) (v1 := .bool false) (v2 := undef) (v := .bool false) ⟨69, by kernel_rfl, by kernel_rfl⟩ (by kernel_rfl) (by kernel_rfl) (by kernel_rfl) (by kernel_rfl) (by intro ρ w hc h1 h2; go_simp) ?_
      refine rel_val2 (t := 72) (t' := 77) (v1 := .bool false) (v2 := .bool false) (v := .bool false) ⟨69, by kernel_rfl, by kernel_rfl⟩ (by kernel_rfl) (by kernel_rfl) (by kernel_rfl) (by kernel_rfl) (by intro ρ w hc h1 h2; go_simp) ?_
      refine rel_val2 (t := 69) (t' := 78) (v1 := .bool false) (v2 := .bool false) (v := .bool false) trivial (by kernel_rfl) (by kernel_rfl) (by kernel_rfl) (by kernel_rfl) (by intro ρ w hc h1 h2; go_simp) ?_
      refine rel_end (env0 := envL [(2, .int .i64 n), (3, .pointer (some ⟨w.heap.size, 0, none⟩)), (4, .pointer (some ⟨w.heap.size + 1, 0, none⟩)), (7, .bool false), (8, .bool false), (9, .bool true), (10, .pointer (some ⟨g10, 0, none⟩)), (11, .pointer (some ⟨g11, 0, none⟩)), (12, .pointer (some ⟨g12, 0, none⟩)), (13, .pointer (some ⟨g13, 0, none⟩))]) (n := 117) (fun t w' => Knows.env (l := [(2, .int .i64 n), (3, .pointer (some ⟨w.heap.size, 0, none⟩)), (4, .pointer (some ⟨w.heap.size + 1, 0, none⟩)), (7, .bool false), (8, .bool false), (9, .bool true), (10, .pointer (some ⟨g10, 0, none⟩)), (11, .pointer (some ⟨g11, 0, none⟩)), (12, .pointer (some ⟨g12, 0, none⟩)), (13, .pointer (some ⟨g13, 0, none⟩))]) HKc t w') HS2 ?_
      intro a' q' hE' hd' hS' henv'
      exact ⟨rfl, hE', hd'.trans HD2.out, hS', knows_of (henv' 2 (by decide)) (by kernel_rfl), knows_of (henv' 3 (by decide)) (by kernel_rfl), knows_of (henv' 4 (by decide)) (by kernel_rfl), (knows_of (henv' 7 (by decide)) (by kernel_rfl)).trans (show (.bool (hasL a n) : Value) = .bool false from (congrArg Value.bool Hx.out)).symm, (knows_of (henv' 8 (by decide)) (by kernel_rfl)).trans (show (.bool (hasL b n) : Value) = .bool false from (congrArg Value.bool Hy.out)).symm, (knows_of (henv' 9 (by decide)) (by kernel_rfl)).trans (show (.bool (hasL allN n) : Value) = .bool true from (congrArg Value.bool Ht.out)).symm, knows_of (henv' 10 (by decide)) (by kernel_rfl), knows_of (henv' 11 (by decide)) (by kernel_rfl), knows_of (henv' 12 (by decide)) (by kernel_rfl), knows_of (henv' 13 (by decide)) (by kernel_rfl), knows_of (henv' 79 (by decide)) (by kernel_rfl), trivial⟩
    · have Ht := Lib.hid ht
      have Hx := Lib.hid hx
      have Hy := Lib.hid hy
      clear ht hx hy
      have HKc : Knows a2 [(2, .int .i64 n), (3, .pointer (some ⟨w.heap.size, 0, none⟩)), (4, .pointer (some ⟨w.heap.size + 1, 0, none⟩)), (7, .bool false), (8, .bool false), (9, .bool false), (10, .pointer (some ⟨g10, 0, none⟩)), (11, .pointer (some ⟨g11, 0, none⟩)), (12, .pointer (some ⟨g12, 0, none⟩)), (13, .pointer (some ⟨g13, 0, none⟩))] := ⟨HK2.1, HK2.2.1, HK2.2.2.1, HK2.2.2.2.1.trans (show (.bool (hasL a n) : Value) = .bool false from (congrArg Value.bool Hx.out)), HK2.2.2.2.2.1.trans (show (.bool (hasL b n) : Value) = .bool false from (congrArg Value.bool Hy.out)), HK2.2.2.2.2.2.1.trans (show (.bool (hasL allN n) : Value) = .bool false from (congrArg Value.bool Ht.out)), HK2.2.2.2.2.2.2.1, HK2.2.2.2.2.2.2.2.1, HK2.2.2.2.2.2.2.2.2.1, HK2.2.2.2.2.2.2.2.2.2.1, trivial⟩
      refine chain_list (n := 117) (l := [(2, .int .i64 n), (3, .pointer (some ⟨w.heap.size, 0, none⟩)), (4, .pointer (some ⟨w.heap.size + 1, 0, none⟩)), (7, .bool false), (8, .bool false), (9, .bool false), (10, .pointer (some ⟨g10, 0, none⟩)), (11, .pointer (some ⟨g11, 0, none⟩)), (12, .pointer (some ⟨g12, 0, none⟩)), (13, .pointer (some ⟨g13, 0, none⟩))]) HKc HS2 rfl (by kernel_rfl) ?_
      refine rel_load (t := 10) (g := g10) (D := andR a b) trivial (by kernel_rfl) (by kernel_rfl) (fun w h => ⟨_, _, (HB_10.out.ext h).cell0, (HB_10.out.ext h).cell1, HN_10.out.ext h⟩) (by intro ρ w x y h1 h2 h3; go_simp) ?_
      refine rel_move (t := 2) (v := .int .i64 n) rfl trivial (by kernel_rfl) (by kernel_rfl) ?_
      refine rel_call2 (Is (.bool false)) (Is.stable _) trivial (f := 16) (fun u u' => #[u, u']) (t := 40) (t' := 41) (S := (Nms (andR a b))) (S' := (Is (.int .i64 n))) (by kernel_rfl) (by kernel_rfl) (by kernel_rfl) (by kernel_rfl) (by intro ρ w hc hf; go_simp) (fun w u u' hE hu hu' => by rw [show u' = .int .i64 n from hu']; exact conB (hasP_any w u (andR a b) n hu (Sz.mono (andR_sz (S0.out) (S1.out)) (by decide)) (inr_can (andR_can _ _)) hn.1 hn.2) (congrArg Value.bool (((hasP_eq _ _)).trans (by rw [has_and, Hx.out, Hy.out] <;> rfl)))) ?_
      refine rel_move (t := 7) (v := .bool false) rfl trivial (by kernel_rfl) (by kernel_rfl) ?_
      refine rel_move (t := 43) (v := .bool false) rfl trivial (by kernel_rfl) (by kernel_rfl) ?_
      refine rel_skip ⟨44, by kernel_rfl, by kernel_rfl⟩ ?_
      refine rel_val2 (t := 44) (t' := 45) (v1 := .bool false) (v2 := undef) (v := .bool false) trivial (by kernel_rfl) (by kernel_rfl) (by kernel_rfl) (by kernel_rfl) (by intro ρ w hc h1 h2; go_simp) ?_
      refine rel_val2 (t := 42) (t' := 46) (v1 := .bool false) (v2 := .bool false) (v := .bool false) trivial (by kernel_rfl) (by kernel_rfl) (by kernel_rfl) (by kernel_rfl) (by intro ρ w hc h1 h2; go_simp) ?_
      refine rel_move (t := 47) (v := .bool false) rfl trivial (by kernel_rfl) (by kernel_rfl) ?_
      refine rel_load (t := 11) (g := g11) (D := orR a b) ⟨48, by kernel_rfl, by kernel_rfl⟩ (by kernel_rfl) (by kernel_rfl) (fun w h => ⟨_, _, (HB_11.out.ext h).cell0, (HB_11.out.ext h).cell1, HN_11.out.ext h⟩) (by intro ρ w x y h1 h2 h3; go_simp) ?_
      refine rel_move (t := 2) (v := .int .i64 n) rfl ⟨48, by kernel_rfl, by kernel_rfl⟩ (by kernel_rfl) (by kernel_rfl) ?_
      refine rel_call2 (Is (.bool false)) (Is.stable _) ⟨48, by kernel_rfl, by kernel_rfl⟩ (f := 16) (fun u u' => #[u, u']) (t := 49) (t' := 50) (S := (Nms (orR a b))) (S' := (Is (.int .i64 n))) (by kernel_rfl) (by kernel_rfl) (by kernel_rfl) (by kernel_rfl) (by intro ρ w hc hf; go_simp) (fun w u u' hE hu hu' => by rw [show u' = .int .i64 n from hu']; exact conB (hasP_any w u (orR a b) n hu (Sz.mono (orR_sz (S0.out) (S1.out)) (by decide)) (inr_can (orR_can _ _)) hn.1 hn.2) (congrArg Value.bool (((hasP_eq _ _)).trans (by rw [has_or, Hx.out, Hy.out] <;> rfl)))) ?_
      refine rel_move (t := 7) (v := .bool false) rfl ⟨48, by kernel_rfl, by kernel_rfl⟩ (by kernel_rfl) (by kernel_rfl) ?_
      refine rel_move (t := 52) (v := .bool false) rfl ⟨48, by kernel_rfl, by kernel_rfl⟩ (by kernel_rfl) (by kernel_rfl) ?_
      refine rel_move (t := 8) (v := .bool false) rfl ⟨53, by kernel_rfl, by kernel_rfl⟩ (by kernel_rfl) (by kernel_rfl) ?_
      refine rel_val2 (t := 53) (t' := 54) (v1 := .bool false) (v2 := .bool false) (v := .bool false) ⟨48, by kernel_rfl, by kernel_rfl⟩ (by kernel_rfl) (by kernel_rfl) (by kernel_rfl) (by kernel_rfl) (by intro ρ w hc h1 h2; go_simp) ?_
      refine rel_val2 (t := 51) (t' := 55) (v1 := .bool false) (v2 := .bool false) (v := .bool false) ⟨48, by kernel_rfl, by kernel_rfl⟩ (by kernel_rfl) (by kernel_rfl) (by kernel_rfl) (by kernel_rfl) (by intro ρ w hc h1 h2; go_simp) ?_
      refine rel_val2 (t := 48) (t' := 56) (v1 := .bool false) (v2 := .bool false) (v := .bool false) trivial (by kernel_rfl) (by kernel_rfl) (by kernel_rfl) (by kernel_rfl) (by intro ρ w hc h1 h2; go_simp) ?_
      refine rel_move (t := 57) (v := .bool false) rfl trivial (by kernel_rfl) (by kernel_rfl) ?_
      refine rel_load (t := 12) (g := g12) (D := notR a) ⟨58, by kernel_rfl, by kernel_rfl⟩ (by kernel_rfl) (by kernel_rfl) (fun w h => ⟨_, _, (HB_12.out.ext h).cell0, (HB_12.out.ext h).cell1, HN_12.out.ext h⟩) (by intro ρ w x y h1 h2 h3; go_simp) ?_
      refine rel_move (t := 2) (v := .int .i64 n) rfl ⟨58, by kernel_rfl, by kernel_rfl⟩ (by kernel_rfl) (by kernel_rfl) ?_
      refine rel_call2 (Is (.bool false)) (Is.stable _) ⟨58, by kernel_rfl, by kernel_rfl⟩ (f := 16) (fun u u' => #[u, u']) (t := 59) (t' := 60) (S := (Nms (notR a))) (S' := (Is (.int .i64 n))) (by kernel_rfl) (by kernel_rfl) (by kernel_rfl) (by kernel_rfl) (by intro ρ w hc hf; go_simp) (fun w u u' hE hu hu' => by rw [show u' = .int .i64 n from hu']; exact conB (hasP_any w u (notR a) n hu (Sz.mono (notR_sz (S0.out)) (by decide)) (inr_can (notR_can _)) hn.1 hn.2) (congrArg Value.bool (((hasP_eq _ _)).trans (by rw [has_not, Ht.out, Hx.out] <;> rfl)))) ?_
      refine rel_move (t := 9) (v := .bool false) rfl ⟨58, by kernel_rfl, by kernel_rfl⟩ (by kernel_rfl) (by kernel_rfl) ?_
      refine rel_move (t := 62) (v := .bool false) rfl ⟨58, by kernel_rfl, by kernel_rfl⟩ (by kernel_rfl) (by kernel_rfl) ?_
      refine rel_skip ⟨63, by kernel_rfl, by kernel_rfl⟩ ?_
      refine rel_skip ⟨63, by kernel_rfl, by kernel_rfl⟩ ?_
      refine rel_val2 (t := 63) (t' := 65) (v1 := .bool false) (v2 := undef) (v := .bool false) ⟨58, by kernel_rfl, by kernel_rfl⟩ (by kernel_rfl) (by kernel_rfl) (by kernel_rfl) (by kernel_rfl) (by intro ρ w hc h1 h2; go_simp) ?_
      refine rel_val2 (t := 61) (t' := 66) (v1 := .bool false) (v2 := .bool false) (v := .bool false) ⟨58, by kernel_rfl, by kernel_rfl⟩ (by kernel_rfl) (by kernel_rfl) (by kernel_rfl) (by kernel_rfl) (by intro ρ w hc h1 h2; go_simp) ?_
      refine rel_val2 (t := 58) (t' := 67) (v1 := .bool false) (v2 := .bool false) (v := .bool false) trivial (by kernel_rfl) (by kernel_rfl) (by kernel_rfl) (by kernel_rfl) (by intro ρ w hc h1 h2; go_simp) ?_
      refine rel_move (t := 68) (v := .bool false) rfl trivial (by kernel_rfl) (by kernel_rfl) ?_
      refine rel_load (t := 13) (g := g13) (D := minusR a b) ⟨69, by kernel_rfl, by kernel_rfl⟩ (by kernel_rfl) (by kernel_rfl) (fun w h => ⟨_, _, (HB_13.out.ext h).cell0, (HB_13.out.ext h).cell1, HN_13.out.ext h⟩) (by intro ρ w x y h1 h2 h3; go_simp) ?_
      refine rel_move (t := 2) (v := .int .i64 n) rfl ⟨69, by kernel_rfl, by kernel_rfl⟩ (by kernel_rfl) (by kernel_rfl) ?_
      refine rel_call2 (Is (.bool false)) (Is.stable _) ⟨69, by kernel_rfl, by kernel_rfl⟩ (f := 16) (fun u u' => #[u, u']) (t := 70) (t' := 71) (S := (Nms (minusR a b))) (S' := (Is (.int .i64 n))) (by kernel_rfl) (by kernel_rfl) (by kernel_rfl) (by kernel_rfl) (by intro ρ w hc hf; go_simp) (fun w u u' hE hu hu' => by rw [show u' = .int .i64 n from hu']; exact conB (hasP_any w u (minusR a b) n hu (Sz.mono (minusR_sz (S0.out) (S1.out)) (by decide)) (inr_can (minusR_can _ _)) hn.1 hn.2) (congrArg Value.bool (((hasP_eq _ _)).trans (by rw [has_minus, Hx.out, Hy.out] <;> rfl)))) ?_
      refine rel_move (t := 7) (v := .bool false) rfl ⟨69, by kernel_rfl, by kernel_rfl⟩ (by kernel_rfl) (by kernel_rfl) ?_
      refine rel_move (t := 73) (v := .bool false) rfl ⟨69, by kernel_rfl, by kernel_rfl⟩ (by kernel_rfl) (by kernel_rfl) ?_
      refine rel_skip ⟨74, by kernel_rfl, by kernel_rfl⟩ ?_
      refine rel_skip ⟨74, by kernel_rfl, by kernel_rfl⟩ ?_
      refine rel_val2 (t := 74) (t' := 76) (v1 := .bool false) (v2 := undef) (v := .bool false) ⟨69, by kernel_rfl, by kernel_rfl⟩ (by kernel_rfl) (by kernel_rfl) (by kernel_rfl) (by kernel_rfl) (by intro ρ w hc h1 h2; go_simp) ?_
      refine rel_val2 (t := 72) (t' := 77) (v1 := .bool false) (v2 := .bool false) (v := .bool false) ⟨69, by kernel_rfl, by kernel_rfl⟩ (by kernel_rfl) (by kernel_rfl) (by kernel_rfl) (by kernel_rfl) (by intro ρ w hc h1 h2; go_simp) ?_
      refine rel_val2 (t := 69) (t' := 78) (v1 := .bool false) (v2 := .bool false) (v := .bool false) trivial (by kernel_rfl) (by kernel_rfl) (by kernel_rfl) (by kernel_rfl) (by intro ρ w hc h1 h2; go_simp) ?_
      refine rel_end (env0 := envL [(2, .int .i64 n), (3, .pointer (some ⟨w.heap.size, 0, none⟩)), (4, .pointer (some ⟨w.heap.size + 1, 0, none⟩)), (7, .bool false), (8, .bool false), (9, .bool false), (10, .pointer (some ⟨g10, 0, none⟩)), (11, .pointer (some ⟨g11, 0, none⟩)), (12, .pointer (some ⟨g12, 0, none⟩)), (13, .pointer (some ⟨g13, 0, none⟩))]) (n := 117) (fun t w' => Knows.env (l := [(2, .int .i64 n), (3, .pointer (some ⟨w.heap.size, 0, none⟩)), (4, .pointer (some ⟨w.heap.size + 1, 0, none⟩)), (7, .bool false), (8, .bool false), (9, .bool false), (10, .pointer (some ⟨g10, 0, none⟩)), (11, .pointer (some ⟨g11, 0, none⟩)), (12, .pointer (some ⟨g12, 0, none⟩)), (13, .pointer (some ⟨g13, 0, none⟩))]) HKc t w') HS2 ?_
      intro a' q' hE' hd' hS' henv'
      exact ⟨rfl, hE', hd'.trans HD2.out, hS', knows_of (henv' 2 (by decide)) (by kernel_rfl), knows_of (henv' 3 (by decide)) (by kernel_rfl), knows_of (henv' 4 (by decide)) (by kernel_rfl), (knows_of (henv' 7 (by decide)) (by kernel_rfl)).trans (show (.bool (hasL a n) : Value) = .bool false from (congrArg Value.bool Hx.out)).symm, (knows_of (henv' 8 (by decide)) (by kernel_rfl)).trans (show (.bool (hasL b n) : Value) = .bool false from (congrArg Value.bool Hy.out)).symm, (knows_of (henv' 9 (by decide)) (by kernel_rfl)).trans (show (.bool (hasL allN n) : Value) = .bool false from (congrArg Value.bool Ht.out)).symm, knows_of (henv' 10 (by decide)) (by kernel_rfl), knows_of (henv' 11 (by decide)) (by kernel_rfl), knows_of (henv' 12 (by decide)) (by kernel_rfl), knows_of (henv' 13 (by decide)) (by kernel_rfl), knows_of (henv' 79 (by decide)) (by kernel_rfl), trivial⟩
    · have Ht := Lib.hid ht
      have Hx := Lib.hid hx
      have Hy := Lib.hid hy
      clear ht hx hy
      have HKc : Knows a2 [(2, .int .i64 n), (3, .pointer (some ⟨w.heap.size, 0, none⟩)), (4, .pointer (some ⟨w.heap.size + 1, 0, none⟩)), (7, .bool false), (8, .bool false), (9, .bool false), (10, .pointer (some ⟨g10, 0, none⟩)), (11, .pointer (some ⟨g11, 0, none⟩)), (12, .pointer (some ⟨g12, 0, none⟩)), (13, .pointer (some ⟨g13, 0, none⟩))] := ⟨HK2.1, HK2.2.1, HK2.2.2.1, HK2.2.2.2.1.trans (show (.bool (hasL a n) : Value) = .bool false from (congrArg Value.bool Hx.out)), HK2.2.2.2.2.1.trans (show (.bool (hasL b n) : Value) = .bool false from (congrArg Value.bool Hy.out)), HK2.2.2.2.2.2.1.trans (show (.bool (hasL allN n) : Value) = .bool false from (congrArg Value.bool Ht.out)), HK2.2.2.2.2.2.2.1, HK2.2.2.2.2.2.2.2.1, HK2.2.2.2.2.2.2.2.2.1, HK2.2.2.2.2.2.2.2.2.2.1, trivial⟩
      refine chain_list (n := 117) (l := [(2, .int .i64 n), (3, .pointer (some ⟨w.heap.size, 0, none⟩)), (4, .pointer (some ⟨w.heap.size + 1, 0, none⟩)), (7, .bool false), (8, .bool false), (9, .bool false), (10, .pointer (some ⟨g10, 0, none⟩)), (11, .pointer (some ⟨g11, 0, none⟩)), (12, .pointer (some ⟨g12, 0, none⟩)), (13, .pointer (some ⟨g13, 0, none⟩))]) HKc HS2 rfl (by kernel_rfl) ?_
      refine rel_load (t := 10) (g := g10) (D := andR a b) trivial (by kernel_rfl) (by kernel_rfl) (fun w h => ⟨_, _, (HB_10.out.ext h).cell0, (HB_10.out.ext h).cell1, HN_10.out.ext h⟩) (by intro ρ w x y h1 h2 h3; go_simp) ?_
      refine rel_move (t := 2) (v := .int .i64 n) rfl trivial (by kernel_rfl) (by kernel_rfl) ?_
      refine rel_call2 (Is (.bool false)) (Is.stable _) trivial (f := 16) (fun u u' => #[u, u']) (t := 40) (t' := 41) (S := (Nms (andR a b))) (S' := (Is (.int .i64 n))) (by kernel_rfl) (by kernel_rfl) (by kernel_rfl) (by kernel_rfl) (by intro ρ w hc hf; go_simp) (fun w u u' hE hu hu' => by rw [show u' = .int .i64 n from hu']; exact conB (hasP_any w u (andR a b) n hu (Sz.mono (andR_sz (S0.out) (S1.out)) (by decide)) (inr_can (andR_can _ _)) hn.1 hn.2) (congrArg Value.bool (((hasP_eq _ _)).trans (by rw [has_and, Hx.out, Hy.out] <;> rfl)))) ?_
      refine rel_move (t := 7) (v := .bool false) rfl trivial (by kernel_rfl) (by kernel_rfl) ?_
      refine rel_move (t := 43) (v := .bool false) rfl trivial (by kernel_rfl) (by kernel_rfl) ?_
      refine rel_skip ⟨44, by kernel_rfl, by kernel_rfl⟩ ?_
      refine rel_val2 (t := 44) (t' := 45) (v1 := .bool false) (v2 := undef) (v := .bool false) trivial (by kernel_rfl) (by kernel_rfl) (by kernel_rfl) (by kernel_rfl) (by intro ρ w hc h1 h2; go_simp) ?_
      refine rel_val2 (t := 42) (t' := 46) (v1 := .bool false) (v2 := .bool false) (v := .bool false) trivial (by kernel_rfl) (by kernel_rfl) (by kernel_rfl) (by kernel_rfl) (by intro ρ w hc h1 h2; go_simp) ?_
      refine rel_move (t := 47) (v := .bool false) rfl trivial (by kernel_rfl) (by kernel_rfl) ?_
      refine rel_load (t := 11) (g := g11) (D := orR a b) ⟨48, by kernel_rfl, by kernel_rfl⟩ (by kernel_rfl) (by kernel_rfl) (fun w h => ⟨_, _, (HB_11.out.ext h).cell0, (HB_11.out.ext h).cell1, HN_11.out.ext h⟩) (by intro ρ w x y h1 h2 h3; go_simp) ?_
      refine rel_move (t := 2) (v := .int .i64 n) rfl ⟨48, by kernel_rfl, by kernel_rfl⟩ (by kernel_rfl) (by kernel_rfl) ?_
      refine rel_call2 (Is (.bool false)) (Is.stable _) ⟨48, by kernel_rfl, by kernel_rfl⟩ (f := 16) (fun u u' => #[u, u']) (t := 49) (t' := 50) (S := (Nms (orR a b))) (S' := (Is (.int .i64 n))) (by kernel_rfl) (by kernel_rfl) (by kernel_rfl) (by kernel_rfl) (by intro ρ w hc hf; go_simp) (fun w u u' hE hu hu' => by rw [show u' = .int .i64 n from hu']; exact conB (hasP_any w u (orR a b) n hu (Sz.mono (orR_sz (S0.out) (S1.out)) (by decide)) (inr_can (orR_can _ _)) hn.1 hn.2) (congrArg Value.bool (((hasP_eq _ _)).trans (by rw [has_or, Hx.out, Hy.out] <;> rfl)))) ?_
      refine rel_move (t := 7) (v := .bool false) rfl ⟨48, by kernel_rfl, by kernel_rfl⟩ (by kernel_rfl) (by kernel_rfl) ?_
      refine rel_move (t := 52) (v := .bool false) rfl ⟨48, by kernel_rfl, by kernel_rfl⟩ (by kernel_rfl) (by kernel_rfl) ?_
      refine rel_move (t := 8) (v := .bool false) rfl ⟨53, by kernel_rfl, by kernel_rfl⟩ (by kernel_rfl) (by kernel_rfl) ?_
      refine rel_val2 (t := 53) (t' := 54) (v1 := .bool false) (v2 := .bool false) (v := .bool false) ⟨48, by kernel_rfl, by kernel_rfl⟩ (by kernel_rfl) (by kernel_rfl) (by kernel_rfl) (by kernel_rfl) (by intro ρ w hc h1 h2; go_simp) ?_
      refine rel_val2 (t := 51) (t' := 55) (v1 := .bool false) (v2 := .bool false) (v := .bool false) ⟨48, by kernel_rfl, by kernel_rfl⟩ (by kernel_rfl) (by kernel_rfl) (by kernel_rfl) (by kernel_rfl) (by intro ρ w hc h1 h2; go_simp) ?_
      refine rel_val2 (t := 48) (t' := 56) (v1 := .bool false) (v2 := .bool false) (v := .bool false) trivial (by kernel_rfl) (by kernel_rfl) (by kernel_rfl) (by kernel_rfl) (by intro ρ w hc h1 h2; go_simp) ?_
      refine rel_move (t := 57) (v := .bool false) rfl trivial (by kernel_rfl) (by kernel_rfl) ?_
      refine rel_load (t := 12) (g := g12) (D := notR a) ⟨58, by kernel_rfl, by kernel_rfl⟩ (by kernel_rfl) (by kernel_rfl) (fun w h => ⟨_, _, (HB_12.out.ext h).cell0, (HB_12.out.ext h).cell1, HN_12.out.ext h⟩) (by intro ρ w x y h1 h2 h3; go_simp) ?_
      refine rel_move (t := 2) (v := .int .i64 n) rfl ⟨58, by kernel_rfl, by kernel_rfl⟩ (by kernel_rfl) (by kernel_rfl) ?_
      refine rel_call2 (Is (.bool false)) (Is.stable _) ⟨58, by kernel_rfl, by kernel_rfl⟩ (f := 16) (fun u u' => #[u, u']) (t := 59) (t' := 60) (S := (Nms (notR a))) (S' := (Is (.int .i64 n))) (by kernel_rfl) (by kernel_rfl) (by kernel_rfl) (by kernel_rfl) (by intro ρ w hc hf; go_simp) (fun w u u' hE hu hu' => by rw [show u' = .int .i64 n from hu']; exact conB (hasP_any w u (notR a) n hu (Sz.mono (notR_sz (S0.out)) (by decide)) (inr_can (notR_can _)) hn.1 hn.2) (congrArg Value.bool (((hasP_eq _ _)).trans (by rw [has_not, Ht.out, Hx.out] <;> rfl)))) ?_
      refine rel_move (t := 9) (v := .bool false) rfl ⟨58, by kernel_rfl, by kernel_rfl⟩ (by kernel_rfl) (by kernel_rfl) ?_
      refine rel_move (t := 62) (v := .bool false) rfl ⟨58, by kernel_rfl, by kernel_rfl⟩ (by kernel_rfl) (by kernel_rfl) ?_
      refine rel_skip ⟨63, by kernel_rfl, by kernel_rfl⟩ ?_
      refine rel_skip ⟨63, by kernel_rfl, by kernel_rfl⟩ ?_
      refine rel_val2 (t := 63) (t' := 65) (v1 := .bool false) (v2 := undef) (v := .bool false) ⟨58, by kernel_rfl, by kernel_rfl⟩ (by kernel_rfl) (by kernel_rfl) (by kernel_rfl) (by kernel_rfl) (by intro ρ w hc h1 h2; go_simp) ?_
      refine rel_val2 (t := 61) (t' := 66) (v1 := .bool false) (v2 := .bool false) (v := .bool false) ⟨58, by kernel_rfl, by kernel_rfl⟩ (by kernel_rfl) (by kernel_rfl) (by kernel_rfl) (by kernel_rfl) (by intro ρ w hc h1 h2; go_simp) ?_
      refine rel_val2 (t := 58) (t' := 67) (v1 := .bool false) (v2 := .bool false) (v := .bool false) trivial (by kernel_rfl) (by kernel_rfl) (by kernel_rfl) (by kernel_rfl) (by intro ρ w hc h1 h2; go_simp) ?_
      refine rel_move (t := 68) (v := .bool false) rfl trivial (by kernel_rfl) (by kernel_rfl) ?_
      refine rel_load (t := 13) (g := g13) (D := minusR a b) ⟨69, by kernel_rfl, by kernel_rfl⟩ (by kernel_rfl) (by kernel_rfl) (fun w h => ⟨_, _, (HB_13.out.ext h).cell0, (HB_13.out.ext h).cell1, HN_13.out.ext h⟩) (by intro ρ w x y h1 h2 h3; go_simp) ?_
      refine rel_move (t := 2) (v := .int .i64 n) rfl ⟨69, by kernel_rfl, by kernel_rfl⟩ (by kernel_rfl) (by kernel_rfl) ?_
      refine rel_call2 (Is (.bool false)) (Is.stable _) ⟨69, by kernel_rfl, by kernel_rfl⟩ (f := 16) (fun u u' => #[u, u']) (t := 70) (t' := 71) (S := (Nms (minusR a b))) (S' := (Is (.int .i64 n))) (by kernel_rfl) (by kernel_rfl) (by kernel_rfl) (by kernel_rfl) (by intro ρ w hc hf; go_simp) (fun w u u' hE hu hu' => by rw [show u' = .int .i64 n from hu']; exact conB (hasP_any w u (minusR a b) n hu (Sz.mono (minusR_sz (S0.out) (S1.out)) (by decide)) (inr_can (minusR_can _ _)) hn.1 hn.2) (congrArg Value.bool (((hasP_eq _ _)).trans (by rw [has_minus, Hx.out, Hy.out] <;> rfl)))) ?_
      refine rel_move (t := 7) (v := .bool false) rfl ⟨69, by kernel_rfl, by kernel_rfl⟩ (by kernel_rfl) (by kernel_rfl) ?_
      refine rel_move (t := 73) (v := .bool false) rfl ⟨69, by kernel_rfl, by kernel_rfl⟩ (by kernel_rfl) (by kernel_rfl) ?_
      refine rel_skip ⟨74, by kernel_rfl, by kernel_rfl⟩ ?_
      refine rel_skip ⟨74, by kernel_rfl, by kernel_rfl⟩ ?_
      refine rel_val2 (t := 74) (t' := 76) (v1 := .bool false) (v2 := undef) (v := .bool false) ⟨69, by kernel_rfl, by kernel_rfl⟩ (by kernel_rfl) (by kernel_rfl) (by kernel_rfl) (by kernel_rfl) (by intro ρ w hc h1 h2; go_simp) ?_
      refine rel_val2 (t := 72) (t' := 77) (v1 := .bool false) (v2 := .bool false) (v := .bool false) ⟨69, by kernel_rfl, by kernel_rfl⟩ (by kernel_rfl) (by kernel_rfl) (by kernel_rfl) (by kernel_rfl) (by intro ρ w hc h1 h2; go_simp) ?_
      refine rel_val2 (t := 69) (t' := 78) (v1 := .bool false) (v2 := .bool false) (v := .bool false) trivial (by kernel_rfl) (by kernel_rfl) (by kernel_rfl) (by kernel_rfl) (by intro ρ w hc h1 h2; go_simp) ?_
      refine rel_end (env0 := envL [(2, .int .i64 n), (3, .pointer (some ⟨w.heap.size, 0, none⟩)), (4, .pointer (some ⟨w.heap.size + 1, 0, none⟩)), (7, .bool false), (8, .bool false), (9, .bool false), (10, .pointer (some ⟨g10, 0, none⟩)), (11, .pointer (some ⟨g11, 0, none⟩)), (12, .pointer (some ⟨g12, 0, none⟩)), (13, .pointer (some ⟨g13, 0, none⟩))]) (n := 117) (fun t w' => Knows.env (l := [(2, .int .i64 n), (3, .pointer (some ⟨w.heap.size, 0, none⟩)), (4, .pointer (some ⟨w.heap.size + 1, 0, none⟩)), (7, .bool false), (8, .bool false), (9, .bool false), (10, .pointer (some ⟨g10, 0, none⟩)), (11, .pointer (some ⟨g11, 0, none⟩)), (12, .pointer (some ⟨g12, 0, none⟩)), (13, .pointer (some ⟨g13, 0, none⟩))]) HKc t w') HS2 ?_
      intro a' q' hE' hd' hS' henv'
      exact ⟨rfl, hE', hd'.trans HD2.out, hS', knows_of (henv' 2 (by decide)) (by kernel_rfl), knows_of (henv' 3 (by decide)) (by kernel_rfl), knows_of (henv' 4 (by decide)) (by kernel_rfl), (knows_of (henv' 7 (by decide)) (by kernel_rfl)).trans (show (.bool (hasL a n) : Value) = .bool false from (congrArg Value.bool Hx.out)).symm, (knows_of (henv' 8 (by decide)) (by kernel_rfl)).trans (show (.bool (hasL b n) : Value) = .bool false from (congrArg Value.bool Hy.out)).symm, (knows_of (henv' 9 (by decide)) (by kernel_rfl)).trans (show (.bool (hasL allN n) : Value) = .bool false from (congrArg Value.bool Ht.out)).symm, knows_of (henv' 10 (by decide)) (by kernel_rfl), knows_of (henv' 11 (by decide)) (by kernel_rfl), knows_of (henv' 12 (by decide)) (by kernel_rfl), knows_of (henv' 13 (by decide)) (by kernel_rfl), knows_of (henv' 79 (by decide)) (by kernel_rfl), trivial⟩
  rintro a3 q3 ⟨hE3, hd3, HS3, HK3⟩
  have HD3 : Hid (a3.defers = []) := Lib.hid hd3
  clear hd3
  have HB0 := Lib.hid (HB0.out.ext hE3)
  have HN0 := Lib.hid (HN0.out.ext hE3)
  have HB1 := Lib.hid (HB1.out.ext hE3)
  have HN1 := Lib.hid (HN1.out.ext hE3)
  have HB_10 := Lib.hid (HB_10.out.ext hE3)
  have HN_10 := Lib.hid (HN_10.out.ext hE3)
  have HB_11 := Lib.hid (HB_11.out.ext hE3)
  have HN_11 := Lib.hid (HN_11.out.ext hE3)
  have HB_12 := Lib.hid (HB_12.out.ext hE3)
  have HN_12 := Lib.hid (HN_12.out.ext hE3)
  have HB_13 := Lib.hid (HB_13.out.ext hE3)
  have HN_13 := Lib.hid (HN_13.out.ext hE3)
  have HEW := Lib.hid (HEW.out.trans hE3)
  clear hE3
  refine nxt_normal ?_
  refine wp_cond_false (show a3.eval (.tmp 79) = .bool false from HK3.2.2.2.2.2.2.2.2.2.2.1) ?_
  refine wp_skip ?_
  refine nxt_normal ?_
  refine seq_nxt (seq_nxt ?_)
  refine wp_split (fun a' w' => Ext q3 w' ∧ a'.defers = [] ∧ a'.tmps.size = 117 ∧ Knows a' [(3, .pointer (some ⟨w.heap.size, 0, none⟩)), (4, .pointer (some ⟨w.heap.size + 1, 0, none⟩)), (10, .pointer (some ⟨g10, 0, none⟩)), (11, .pointer (some ⟨g11, 0, none⟩)), (12, .pointer (some ⟨g12, 0, none⟩)), (13, .pointer (some ⟨g13, 0, none⟩)), (99, .bool false)]) ?_ ?_
  · rcases mem_ways a b n with ⟨ht, hx, hy, k⟩ | ⟨ht, hx, hy, k⟩ | ⟨ht, hx, hy, k⟩ | ⟨ht, hx, hy, k⟩ | ⟨ht, hx, hy, k⟩ | ⟨ht, hx, hy, k⟩
    · have Ht := Lib.hid ht
      have Hx := Lib.hid hx
      have Hy := Lib.hid hy
      clear ht hx hy
      have HKc : Knows a3 [(2, .int .i64 n), (3, .pointer (some ⟨w.heap.size, 0, none⟩)), (4, .pointer (some ⟨w.heap.size + 1, 0, none⟩)), (7, .bool true), (8, .bool true), (9, .bool true), (10, .pointer (some ⟨g10, 0, none⟩)), (11, .pointer (some ⟨g11, 0, none⟩)), (12, .pointer (some ⟨g12, 0, none⟩)), (13, .pointer (some ⟨g13, 0, none⟩)), (79, .bool false)] := ⟨HK3.1, HK3.2.1, HK3.2.2.1, HK3.2.2.2.1.trans (show (.bool (hasL a n) : Value) = .bool true from (congrArg Value.bool Hx.out)), HK3.2.2.2.2.1.trans (show (.bool (hasL b n) : Value) = .bool true from (congrArg Value.bool Hy.out)), HK3.2.2.2.2.2.1.trans (show (.bool (hasL allN n) : Value) = .bool true from (congrArg Value.bool Ht.out)), HK3.2.2.2.2.2.2.1, HK3.2.2.2.2.2.2.2.1, HK3.2.2.2.2.2.2.2.2.1, HK3.2.2.2.2.2.2.2.2.2.1, HK3.2.2.2.2.2.2.2.2.2.2.1, trivial⟩
      refine chain_list (n := 117) (l := [(2, .int .i64 n), (3, .pointer (some ⟨w.heap.size, 0, none⟩)), (4, .pointer (some ⟨w.heap.size + 1, 0, none⟩)), (7, .bool true), (8, .bool true), (9, .bool true), (10, .pointer (some ⟨g10, 0, none⟩)), (11, .pointer (some ⟨g11, 0, none⟩)), (12, .pointer (some ⟨g12, 0, none⟩)), (13, .pointer (some ⟨g13, 0, none⟩)), (79, .bool false)]) HKc HS3 rfl (by kernel_rfl) ?_
      refine rel_move (t := 9) (v := .bool true) rfl trivial (by kernel_rfl) (by kernel_rfl) ?_
      refine rel_move (t := 2) (v := .int .i64 n) rfl trivial (by kernel_rfl) (by kernel_rfl) ?_
      refine rel_val1 (t := 81) (v1 := .int .i64 n) (v := .bool true) trivial (by kernel_rfl) (by kernel_rfl) (by intro ρ w hc h1; go_simp; first | done | omega | (simp; omega)) ?_
      refine rel_move (t := 82) (v := .bool true) rfl trivial (by kernel_rfl) (by kernel_rfl) ?_
      refine rel_move (t := 2) (v := .int .i64 n) rfl ⟨83, by kernel_rfl, by kernel_rfl⟩ (by kernel_rfl) (by kernel_rfl) ?_
      refine rel_val1 (t := 84) (v1 := .int .i64 n) (v := .bool true) ⟨83, by kernel_rfl, by kernel_rfl⟩ (by kernel_rfl) (by kernel_rfl) (by intro ρ w hc h1; go_simp; first | done | omega | (simp; omega)) ?_
      refine rel_val2 (t := 83) (t' := 85) (v1 := .bool true) (v2 := .bool true) (v := .bool true) trivial (by kernel_rfl) (by kernel_rfl) (by kernel_rfl) (by kernel_rfl) (by intro ρ w hc h1 h2; go_simp) ?_
      refine rel_val2 (t := 80) (t' := 86) (v1 := .bool true) (v2 := .bool true) (v := .bool false) trivial (by kernel_rfl) (by kernel_rfl) (by kernel_rfl) (by kernel_rfl) (by intro ρ w hc h1 h2; go_simp) ?_
      refine rel_move (t := 87) (v := .bool false) rfl trivial (by kernel_rfl) (by kernel_rfl) ?_
      refine rel_move (t := 7) (v := .bool true) rfl ⟨88, by kernel_rfl, by kernel_rfl⟩ (by kernel_rfl) (by kernel_rfl) ?_
      refine rel_move (t := 89) (v := .bool true) rfl ⟨88, by kernel_rfl, by kernel_rfl⟩ (by kernel_rfl) (by kernel_rfl) ?_
      refine rel_move (t := 8) (v := .bool true) rfl ⟨90, by kernel_rfl, by kernel_rfl⟩ (by kernel_rfl) (by kernel_rfl) ?_
      refine rel_val1 (t := 91) (v1 := .bool true) (v := .bool false) ⟨90, by kernel_rfl, by kernel_rfl⟩ (by kernel_rfl) (by kernel_rfl) (by intro ρ w hc h1; go_simp) ?_
      refine rel_val2 (t := 90) (t' := 92) (v1 := .bool true) (v2 := .bool false) (v := .bool false) ⟨88, by kernel_rfl, by kernel_rfl⟩ (by kernel_rfl) (by kernel_rfl) (by kernel_rfl) (by kernel_rfl) (by intro ρ w hc h1 h2; go_simp) ?_
      refine rel_move (t := 93) (v := .bool false) rfl ⟨88, by kernel_rfl, by kernel_rfl⟩ (by kernel_rfl) (by kernel_rfl) ?_
      refine rel_skip ⟨94, by kernel_rfl, by kernel_rfl⟩ ?_
      refine rel_skip ⟨94, by kernel_rfl, by kernel_rfl⟩ ?_
      refine rel_skip ⟨94, by kernel_rfl, by kernel_rfl⟩ ?_
      refine rel_val2 (t := 94) (t' := 97) (v1 := .bool false) (v2 := undef) (v := .bool false) ⟨88, by kernel_rfl, by kernel_rfl⟩ (by kernel_rfl) (by kernel_rfl) (by kernel_rfl) (by kernel_rfl) (by intro ρ w hc h1 h2; go_simp) ?_
      refine rel_val2 (t := 88) (t' := 98) (v1 := .bool false) (v2 := .bool false) (v := .bool false) trivial (by kernel_rfl) (by kernel_rfl) (by kernel_rfl) (by kernel_rfl) (by intro ρ w hc h1 h2; go_simp) ?_
      refine rel_end (env0 := envL [(2, .int .i64 n), (3, .pointer (some ⟨w.heap.size, 0, none⟩)), (4, .pointer (some ⟨w.heap.size + 1, 0, none⟩)), (7, .bool true), (8, .bool true), (9, .bool true), (10, .pointer (some ⟨g10, 0, none⟩)), (11, .pointer (some ⟨g11, 0, none⟩)), (12, .pointer (some ⟨g12, 0, none⟩)), (13, .pointer (some ⟨g13, 0, none⟩)), (79, .bool false)]) (n := 117) (fun t w' => Knows.env (l := [(2, .int .i64 n), (3, .pointer (some ⟨w.heap.size, 0, none⟩)), (4, .pointer (some ⟨w.heap.size + 1, 0, none⟩)), (7, .bool true), (8, .bool true), (9, .bool true), (10, .pointer (some ⟨g10, 0, none⟩)), (11, .pointer (some ⟨g11, 0, none⟩)), (12, .pointer (some ⟨g12, 0, none⟩)), (13, .pointer (some ⟨g13, 0, none⟩)), (79, .bool false)]) HKc t w') HS3 ?_
      intro a' q' hE' hd' hS' henv'
      exact ⟨rfl, hE', hd'.trans HD3.out, hS', knows_of (henv' 3 (by decide)) (by kernel_rfl), knows_of (henv' 4 (by decide)) (by kernel_rfl), knows_of (henv' 10 (by decide)) (by kernel_rfl), knows_of (henv' 11 (by decide)) (by kernel_rfl), knows_of (henv' 12 (by decide)) (by kernel_rfl), knows_of (henv' 13 (by decide)) (by kernel_rfl), knows_of (henv' 99 (by decide)) (by kernel_rfl), trivial⟩
    · have Ht := Lib.hid ht
      have Hx := Lib.hid hx
      have Hy := Lib.hid hy
      clear ht hx hy
      have HKc : Knows a3 [(2, .int .i64 n), (3, .pointer (some ⟨w.heap.size, 0, none⟩)), (4, .pointer (some ⟨w.heap.size + 1, 0, none⟩)), (7, .bool true), (8, .bool false), (9, .bool true), (10, .pointer (some ⟨g10, 0, none⟩)), (11, .pointer (some ⟨g11, 0, none⟩)), (12, .pointer (some ⟨g12, 0, none⟩)), (13, .pointer (some ⟨g13, 0, none⟩)), (79, .bool false)] := ⟨HK3.1, HK3.2.1, HK3.2.2.1, HK3.2.2.2.1.trans (show (.bool (hasL a n) : Value) = .bool true from (congrArg Value.bool Hx.out)), HK3.2.2.2.2.1.trans (show (.bool (hasL b n) : Value) = .bool false from (congrArg Value.bool Hy.out)), HK3.2.2.2.2.2.1.trans (show (.bool (hasL allN n) : Value) = .bool true from (congrArg Value.bool Ht.out)), HK3.2.2.2.2.2.2.1, HK3.2.2.2.2.2.2.2.1, HK3.2.2.2.2.2.2.2.2.1, HK3.2.2.2.2.2.2.2.2.2.1, HK3.2.2.2.2.2.2.2.2.2.2.1, trivial⟩
      refine chain_list (n := 117) (l := [(2, .int .i64 n), (3, .pointer (some ⟨w.heap.size, 0, none⟩)), (4, .pointer (some ⟨w.heap.size + 1, 0, none⟩)), (7, .bool true), (8, .bool false), (9, .bool true), (10, .pointer (some ⟨g10, 0, none⟩)), (11, .pointer (some ⟨g11, 0, none⟩)), (12, .pointer (some ⟨g12, 0, none⟩)), (13, .pointer (some ⟨g13, 0, none⟩)), (79, .bool false)]) HKc HS3 rfl (by kernel_rfl) ?_
      refine rel_move (t := 9) (v := .bool true) rfl trivial (by kernel_rfl) (by kernel_rfl) ?_
      refine rel_move (t := 2) (v := .int .i64 n) rfl trivial (by kernel_rfl) (by kernel_rfl) ?_
      refine rel_val1 (t := 81) (v1 := .int .i64 n) (v := .bool true) trivial (by kernel_rfl) (by kernel_rfl) (by intro ρ w hc h1; go_simp; first | done | omega | (simp; omega)) ?_
      refine rel_move (t := 82) (v := .bool true) rfl trivial (by kernel_rfl) (by kernel_rfl) ?_
      refine rel_move (t := 2) (v := .int .i64 n) rfl ⟨83, by kernel_rfl, by kernel_rfl⟩ (by kernel_rfl) (by kernel_rfl) ?_
      refine rel_val1 (t := 84) (v1 := .int .i64 n) (v := .bool true) ⟨83, by kernel_rfl, by kernel_rfl⟩ (by kernel_rfl) (by kernel_rfl) (by intro ρ w hc h1; go_simp; first | done | omega | (simp; omega)) ?_
      refine rel_val2 (t := 83) (t' := 85) (v1 := .bool true) (v2 := .bool true) (v := .bool true) trivial (by kernel_rfl) (by kernel_rfl) (by kernel_rfl) (by kernel_rfl) (by intro ρ w hc h1 h2; go_simp) ?_
      refine rel_val2 (t := 80) (t' := 86) (v1 := .bool true) (v2 := .bool true) (v := .bool false) trivial (by kernel_rfl) (by kernel_rfl) (by kernel_rfl) (by kernel_rfl) (by intro ρ w hc h1 h2; go_simp) ?_
      refine rel_move (t := 87) (v := .bool false) rfl trivial (by kernel_rfl) (by kernel_rfl) ?_
      refine rel_move (t := 7) (v := .bool true) rfl ⟨88, by kernel_rfl, by kernel_rfl⟩ (by kernel_rfl) (by kernel_rfl) ?_
      refine rel_move (t := 89) (v := .bool true) rfl ⟨88, by kernel_rfl, by kernel_rfl⟩ (by kernel_rfl) (by kernel_rfl) ?_
      refine rel_move (t := 8) (v := .bool false) rfl ⟨90, by kernel_rfl, by kernel_rfl⟩ (by kernel_rfl) (by kernel_rfl) ?_
      refine rel_val1 (t := 91) (v1 := .bool false) (v := .bool true) ⟨90, by kernel_rfl, by kernel_rfl⟩ (by kernel_rfl) (by kernel_rfl) (by intro ρ w hc h1; go_simp) ?_
      refine rel_val2 (t := 90) (t' := 92) (v1 := .bool true) (v2 := .bool true) (v := .bool true) ⟨88, by kernel_rfl, by kernel_rfl⟩ (by kernel_rfl) (by kernel_rfl) (by kernel_rfl) (by kernel_rfl) (by intro ρ w hc h1 h2; go_simp) ?_
      refine rel_move (t := 93) (v := .bool true) rfl ⟨88, by kernel_rfl, by kernel_rfl⟩ (by kernel_rfl) (by kernel_rfl) ?_
      refine rel_load (t := 3) (g := w.heap.size) (D := a) ⟨94, by kernel_rfl, by kernel_rfl⟩ (by kernel_rfl) (by kernel_rfl) (fun w h => ⟨_, _, (HB0.out.ext h).cell0, (HB0.out.ext h).cell1, HN0.out.ext h⟩) (by intro ρ w x y h1 h2 h3; go_simp) ?_
      refine rel_load (t := 4) (g := w.heap.size + 1) (D := b) ⟨94, by kernel_rfl, by kernel_rfl⟩ (by kernel_rfl) (by kernel_rfl) (fun w h => ⟨_, _, (HB1.out.ext h).cell0, (HB1.out.ext h).cell1, HN1.out.ext h⟩) (by intro ρ w x y h1 h2 h3; go_simp) ?_
      refine rel_call2 (Is (.bool false)) (Is.stable _) ⟨94, by kernel_rfl, by kernel_rfl⟩ (f := 46) (fun u u' => #[u, u']) (t := 95) (t' := 96) (S := (Nms (a))) (S' := (Nms (b))) (by kernel_rfl) (by kernel_rfl) (by kernel_rfl) (by kernel_rfl) (by intro ρ w hc hf; go_simp) (fun w u u' hE hu hu' => conB (subsetP_any w u a hu u' b hu' (Sz.mono (S0.out) (by decide)) (Sz.mono (S1.out) (by decide)) HR0.out HR1.out) (congrArg Value.bool (((subsetP_eq _ _)).trans (not_sub a b n Hx.out Hy.out)))) ?_
      refine rel_val2 (t := 94) (t' := 97) (v1 := .bool true) (v2 := .bool false) (v := .bool false) ⟨88, by kernel_rfl, by kernel_rfl⟩ (by kernel_rfl) (by kernel_rfl) (by kernel_rfl) (by kernel_rfl) (by intro ρ w hc h1 h2; go_simp) ?_
      refine rel_val2 (t := 88) (t' := 98) (v1 := .bool false) (v2 := .bool false) (v := .bool false) trivial (by kernel_rfl) (by kernel_rfl) (by kernel_rfl) (by kernel_rfl) (by intro ρ w hc h1 h2; go_simp) ?_
      refine rel_end (env0 := envL [(2, .int .i64 n), (3, .pointer (some ⟨w.heap.size, 0, none⟩)), (4, .pointer (some ⟨w.heap.size + 1, 0, none⟩)), (7, .bool true), (8, .bool false), (9, .bool true), (10, .pointer (some ⟨g10, 0, none⟩)), (11, .pointer (some ⟨g11, 0, none⟩)), (12, .pointer (some ⟨g12, 0, none⟩)), (13, .pointer (some ⟨g13, 0, none⟩)), (79, .bool false)]) (n := 117) (fun t w' => Knows.env (l := [(2, .int .i64 n), (3, .pointer (some ⟨w.heap.size, 0, none⟩)), (4, .pointer (some ⟨w.heap.size + 1, 0, none⟩)), (7, .bool true), (8, .bool false), (9, .bool true), (10, .pointer (some ⟨g10, 0, none⟩)), (11, .pointer (some ⟨g11, 0, none⟩)), (12, .pointer (some ⟨g12, 0, none⟩)), (13, .pointer (some ⟨g13, 0, none⟩)), (79, .bool false)]) HKc t w') HS3 ?_
      intro a' q' hE' hd' hS' henv'
      exact ⟨rfl, hE', hd'.trans HD3.out, hS', knows_of (henv' 3 (by decide)) (by kernel_rfl), knows_of (henv' 4 (by decide)) (by kernel_rfl), knows_of (henv' 10 (by decide)) (by kernel_rfl), knows_of (henv' 11 (by decide)) (by kernel_rfl), knows_of (henv' 12 (by decide)) (by kernel_rfl), knows_of (henv' 13 (by decide)) (by kernel_rfl), knows_of (henv' 99 (by decide)) (by kernel_rfl), trivial⟩
    · have Ht := Lib.hid ht
      have Hx := Lib.hid hx
      have Hy := Lib.hid hy
      clear ht hx hy
      have HKc : Knows a3 [(2, .int .i64 n), (3, .pointer (some ⟨w.heap.size, 0, none⟩)), (4, .pointer (some ⟨w.heap.size + 1, 0, none⟩)), (7, .bool false), (8, .bool true), (9, .bool true), (10, .pointer (some ⟨g10, 0, none⟩)), (11, .pointer (some ⟨g11, 0, none⟩)), (12, .pointer (some ⟨g12, 0, none⟩)), (13, .pointer (some ⟨g13, 0, none⟩)), (79, .bool false)] := ⟨HK3.1, HK3.2.1, HK3.2.2.1, HK3.2.2.2.1.trans (show (.bool (hasL a n) : Value) = .bool false from (congrArg Value.bool Hx.out)), HK3.2.2.2.2.1.trans (show (.bool (hasL b n) : Value) = .bool true from (congrArg Value.bool Hy.out)), HK3.2.2.2.2.2.1.trans (show (.bool (hasL allN n) : Value) = .bool true from (congrArg Value.bool Ht.out)), HK3.2.2.2.2.2.2.1, HK3.2.2.2.2.2.2.2.1, HK3.2.2.2.2.2.2.2.2.1, HK3.2.2.2.2.2.2.2.2.2.1, HK3.2.2.2.2.2.2.2.2.2.2.1, trivial⟩
      refine chain_list (n := 117) (l := [(2, .int .i64 n), (3, .pointer (some ⟨w.heap.size, 0, none⟩)), (4, .pointer (some ⟨w.heap.size + 1, 0, none⟩)), (7, .bool false), (8, .bool true), (9, .bool true), (10, .pointer (some ⟨g10, 0, none⟩)), (11, .pointer (some ⟨g11, 0, none⟩)), (12, .pointer (some ⟨g12, 0, none⟩)), (13, .pointer (some ⟨g13, 0, none⟩)), (79, .bool false)]) HKc HS3 rfl (by kernel_rfl) ?_
      refine rel_move (t := 9) (v := .bool true) rfl trivial (by kernel_rfl) (by kernel_rfl) ?_
      refine rel_move (t := 2) (v := .int .i64 n) rfl trivial (by kernel_rfl) (by kernel_rfl) ?_
      refine rel_val1 (t := 81) (v1 := .int .i64 n) (v := .bool true) trivial (by kernel_rfl) (by kernel_rfl) (by intro ρ w hc h1; go_simp; first | done | omega | (simp; omega)) ?_
      refine rel_move (t := 82) (v := .bool true) rfl trivial (by kernel_rfl) (by kernel_rfl) ?_
      refine rel_move (t := 2) (v := .int .i64 n) rfl ⟨83, by kernel_rfl, by kernel_rfl⟩ (by kernel_rfl) (by kernel_rfl) ?_
      refine rel_val1 (t := 84) (v1 := .int .i64 n) (v := .bool true) ⟨83, by kernel_rfl, by kernel_rfl⟩ (by kernel_rfl) (by kernel_rfl) (by intro ρ w hc h1; go_simp; first | done | omega | (simp; omega)) ?_
      refine rel_val2 (t := 83) (t' := 85) (v1 := .bool true) (v2 := .bool true) (v := .bool true) trivial (by kernel_rfl) (by kernel_rfl) (by kernel_rfl) (by kernel_rfl) (by intro ρ w hc h1 h2; go_simp) ?_
      refine rel_val2 (t := 80) (t' := 86) (v1 := .bool true) (v2 := .bool true) (v := .bool false) trivial (by kernel_rfl) (by kernel_rfl) (by kernel_rfl) (by kernel_rfl) (by intro ρ w hc h1 h2; go_simp) ?_
      refine rel_move (t := 87) (v := .bool false) rfl trivial (by kernel_rfl) (by kernel_rfl) ?_
      refine rel_move (t := 7) (v := .bool false) rfl ⟨88, by kernel_rfl, by kernel_rfl⟩ (by kernel_rfl) (by kernel_rfl) ?_
      refine rel_move (t := 89) (v := .bool false) rfl ⟨88, by kernel_rfl, by kernel_rfl⟩ (by kernel_rfl) (by kernel_rfl) ?_
      refine rel_skip ⟨90, by kernel_rfl, by kernel_rfl⟩ ?_
      refine rel_skip ⟨90, by kernel_rfl, by kernel_rfl⟩ ?_
      refine rel_val2 (t := 90) (t' := 92) (v1 := .bool false) (v2 := undef) (v := .bool false) ⟨88, by kernel_rfl, by kernel_rfl⟩ (by kernel_rfl) (by kernel_rfl) (by kernel_rfl) (by kernel_rfl) (by intro ρ w hc h1 h2; go_simp) ?_
      refine rel_move (t := 93) (v := .bool false) rfl ⟨88, by kernel_rfl, by kernel_rfl⟩ (by kernel_rfl) (by kernel_rfl) ?_
      refine rel_skip ⟨94, by kernel_rfl, by kernel_rfl⟩ ?_
      refine rel_skip ⟨94, by kernel_rfl, by kernel_rfl⟩ ?_
      refine rel_skip ⟨94, by kernel_rfl, by kernel_rfl⟩ ?_
      refine rel_val2 (t := 94) (t' := 97) (v1 := .bool false) (v2 := undef) (v := .bool false) ⟨88, by kernel_rfl, by kernel_rfl⟩ (by kernel_rfl) (by kernel_rfl) (by kernel_rfl) (by kernel_rfl) (by intro ρ w hc h1 h2; go_simp) ?_
      refine rel_val2 (t := 88) (t' := 98) (v1 := .bool false) (v2 := .bool false) (v := .bool false) trivial (by kernel_rfl) (by kernel_rfl) (by kernel_rfl) (by kernel_rfl) (by intro ρ w hc h1 h2; go_simp) ?_
      refine rel_end (env0 := envL [(2, .int .i64 n), (3, .pointer (some ⟨w.heap.size, 0, none⟩)), (4, .pointer (some ⟨w.heap.size + 1, 0, none⟩)), (7, .bool false), (8, .bool true), (9, .bool true), (10, .pointer (some ⟨g10, 0, none⟩)), (11, .pointer (some ⟨g11, 0, none⟩)), (12, .pointer (some ⟨g12, 0, none⟩)), (13, .pointer (some ⟨g13, 0, none⟩)), (79, .bool false)]) (n := 117) (fun t w' => Knows.env (l := [(2, .int .i64 n), (3, .pointer (some ⟨w.heap.size, 0, none⟩)), (4, .pointer (some ⟨w.heap.size + 1, 0, none⟩)), (7, .bool false), (8, .bool true), (9, .bool true), (10, .pointer (some ⟨g10, 0, none⟩)), (11, .pointer (some ⟨g11, 0, none⟩)), (12, .pointer (some ⟨g12, 0, none⟩)), (13, .pointer (some ⟨g13, 0, none⟩)), (79, .bool false)]) HKc t w') HS3 ?_
      intro a' q' hE' hd' hS' henv'
      exact ⟨rfl, hE', hd'.trans HD3.out, hS', knows_of (henv' 3 (by decide)) (by kernel_rfl), knows_of (henv' 4 (by decide)) (by kernel_rfl), knows_of (henv' 10 (by decide)) (by kernel_rfl), knows_of (henv' 11 (by decide)) (by kernel_rfl), knows_of (henv' 12 (by decide)) (by kernel_rfl), knows_of (henv' 13 (by decide)) (by kernel_rfl), knows_of (henv' 99 (by decide)) (by kernel_rfl), trivial⟩
    · have Ht := Lib.hid ht
      have Hx := Lib.hid hx
      have Hy := Lib.hid hy
      clear ht hx hy
      have HKc : Knows a3 [(2, .int .i64 n), (3, .pointer (some ⟨w.heap.size, 0, none⟩)), (4, .pointer (some ⟨w.heap.size + 1, 0, none⟩)), (7, .bool false), (8, .bool false), (9, .bool true), (10, .pointer (some ⟨g10, 0, none⟩)), (11, .pointer (some ⟨g11, 0, none⟩)), (12, .pointer (some ⟨g12, 0, none⟩)), (13, .pointer (some ⟨g13, 0, none⟩)), (79, .bool false)] := ⟨HK3.1, HK3.2.1, HK3.2.2.1, HK3.2.2.2.1.trans (show (.bool (hasL a n) : Value) = .bool false from (congrArg Value.bool Hx.out)), HK3.2.2.2.2.1.trans (show (.bool (hasL b n) : Value) = .bool false from (congrArg Value.bool Hy.out)), HK3.2.2.2.2.2.1.trans (show (.bool (hasL allN n) : Value) = .bool true from (congrArg Value.bool Ht.out)), HK3.2.2.2.2.2.2.1, HK3.2.2.2.2.2.2.2.1, HK3.2.2.2.2.2.2.2.2.1, HK3.2.2.2.2.2.2.2.2.2.1, HK3.2.2.2.2.2.2.2.2.2.2.1, trivial⟩
      refine chain_list (n := 117) (l := [(2, .int .i64 n), (3, .pointer (some ⟨w.heap.size, 0, none⟩)), (4, .pointer (some ⟨w.heap.size + 1, 0, none⟩)), (7, .bool false), (8, .bool false), (9, .bool true), (10, .pointer (some ⟨g10, 0, none⟩)), (11, .pointer (some ⟨g11, 0, none⟩)), (12, .pointer (some ⟨g12, 0, none⟩)), (13, .pointer (some ⟨g13, 0, none⟩)), (79, .bool false)]) HKc HS3 rfl (by kernel_rfl) ?_
      refine rel_move (t := 9) (v := .bool true) rfl trivial (by kernel_rfl) (by kernel_rfl) ?_
      refine rel_move (t := 2) (v := .int .i64 n) rfl trivial (by kernel_rfl) (by kernel_rfl) ?_
      refine rel_val1 (t := 81) (v1 := .int .i64 n) (v := .bool true) trivial (by kernel_rfl) (by kernel_rfl) (by intro ρ w hc h1; go_simp; first | done | omega | (simp; omega)) ?_
      refine rel_move (t := 82) (v := .bool true) rfl trivial (by kernel_rfl) (by kernel_rfl) ?_
      refine rel_move (t := 2) (v := .int .i64 n) rfl ⟨83, by kernel_rfl, by kernel_rfl⟩ (by kernel_rfl) (by kernel_rfl) ?_
      refine rel_val1 (t := 84) (v1 := .int .i64 n) (v := .bool true) ⟨83, by kernel_rfl, by kernel_rfl⟩ (by kernel_rfl) (by kernel_rfl) (by intro ρ w hc h1; go_simp; first | done | omega | (simp; omega)) ?_
      refine rel_val2 (t := 83) (t' := 85) (v1 := .bool true) (v2 := .bool true) (v := .bool true) trivial (by kernel_rfl) (by kernel_rfl) (by kernel_rfl) (by kernel_rfl) (by intro ρ w hc h1 h2; go_simp) ?_
      refine rel_val2 (t := 80) (t' := 86) (v1 := .bool true) (v2 := .bool true) (v := .bool false) trivial (by kernel_rfl) (by kernel_rfl) (by kernel_rfl) (by kernel_rfl) (by intro ρ w hc h1 h2; go_simp) ?_
      refine rel_move (t := 87) (v := .bool false) rfl trivial (by kernel_rfl) (by kernel_rfl) ?_
      refine rel_move (t := 7) (v := .bool false) rfl ⟨88, by kernel_rfl, by kernel_rfl⟩ (by kernel_rfl) (by kernel_rfl) ?_
      refine rel_move (t := 89) (v := .bool false) rfl ⟨88, by kernel_rfl, by kernel_rfl⟩ (by kernel_rfl) (by kernel_rfl) ?_
      refine rel_skip ⟨90, by kernel_rfl, by kernel_rfl⟩ ?_
      refine rel_skip ⟨90, by kernel_rfl, by kernel_rfl⟩ ?_
      refine rel_val2 (t := 90) (t' := 92) (v1 := .bool false) (v2 := undef) (v := .bool false) ⟨88, by kernel_rfl, by kernel_rfl⟩ (by kernel_rfl) (by kernel_rfl) (by kernel_rfl) (by kernel_rfl) (by intro ρ w hc h1 h2; go_simp) ?_
      refine rel_move (t := 93) (v := .bool false) rfl ⟨88, by kernel_rfl, by kernel_rfl⟩ (by kernel_rfl) (by kernel_rfl) ?_
      refine rel_skip ⟨94, by kernel_rfl, by kernel_rfl⟩ ?_
      refine rel_skip ⟨94, by kernel_rfl, by kernel_rfl⟩ ?_
      refine rel_skip ⟨94, by kernel_rfl, by kernel_rfl⟩ ?_
      refine rel_val2 (t := 94) (t' := 97) (v1 := .bool false) (v2 := undef) (v := .bool false) ⟨88, by kernel_rfl, by kernel_rfl⟩ (by kernel_rfl) (by kernel_rfl) (by kernel_rfl) (by kernel_rfl) (by intro ρ w hc h1 h2; go_simp) ?_
      refine rel_val2 (t := 88) (t' := 98) (v1 := .bool false) (v2 := .bool false) (v := .bool false) trivial (by kernel_rfl) (by kernel_rfl) (by kernel_rfl) (by kernel_rfl) (by intro ρ w hc h1 h2; go_simp) ?_
      refine rel_end (env0 := envL [(2, .int .i64 n), (3, .pointer (some ⟨w.heap.size, 0, none⟩)), (4, .pointer (some ⟨w.heap.size + 1, 0, none⟩)), (7, .bool false), (8, .bool false), (9, .bool true), (10, .pointer (some ⟨g10, 0, none⟩)), (11, .pointer (some ⟨g11, 0, none⟩)), (12, .pointer (some ⟨g12, 0, none⟩)), (13, .pointer (some ⟨g13, 0, none⟩)), (79, .bool false)]) (n := 117) (fun t w' => Knows.env (l := [(2, .int .i64 n), (3, .pointer (some ⟨w.heap.size, 0, none⟩)), (4, .pointer (some ⟨w.heap.size + 1, 0, none⟩)), (7, .bool false), (8, .bool false), (9, .bool true), (10, .pointer (some ⟨g10, 0, none⟩)), (11, .pointer (some ⟨g11, 0, none⟩)), (12, .pointer (some ⟨g12, 0, none⟩)), (13, .pointer (some ⟨g13, 0, none⟩)), (79, .bool false)]) HKc t w') HS3 ?_
      intro a' q' hE' hd' hS' henv'
      exact ⟨rfl, hE', hd'.trans HD3.out, hS', knows_of (henv' 3 (by decide)) (by kernel_rfl), knows_of (henv' 4 (by decide)) (by kernel_rfl), knows_of (henv' 10 (by decide)) (by kernel_rfl), knows_of (henv' 11 (by decide)) (by kernel_rfl), knows_of (henv' 12 (by decide)) (by kernel_rfl), knows_of (henv' 13 (by decide)) (by kernel_rfl), knows_of (henv' 99 (by decide)) (by kernel_rfl), trivial⟩
    · have Ht := Lib.hid ht
      have Hx := Lib.hid hx
      have Hy := Lib.hid hy
      clear ht hx hy
      have HKc : Knows a3 [(2, .int .i64 n), (3, .pointer (some ⟨w.heap.size, 0, none⟩)), (4, .pointer (some ⟨w.heap.size + 1, 0, none⟩)), (7, .bool false), (8, .bool false), (9, .bool false), (10, .pointer (some ⟨g10, 0, none⟩)), (11, .pointer (some ⟨g11, 0, none⟩)), (12, .pointer (some ⟨g12, 0, none⟩)), (13, .pointer (some ⟨g13, 0, none⟩)), (79, .bool false)] := ⟨HK3.1, HK3.2.1, HK3.2.2.1, HK3.2.2.2.1.trans (show (.bool (hasL a n) : Value) = .bool false from (congrArg Value.bool Hx.out)), HK3.2.2.2.2.1.trans (show (.bool (hasL b n) : Value) = .bool false from (congrArg Value.bool Hy.out)), HK3.2.2.2.2.2.1.trans (show (.bool (hasL allN n) : Value) = .bool false from (congrArg Value.bool Ht.out)), HK3.2.2.2.2.2.2.1, HK3.2.2.2.2.2.2.2.1, HK3.2.2.2.2.2.2.2.2.1, HK3.2.2.2.2.2.2.2.2.2.1, HK3.2.2.2.2.2.2.2.2.2.2.1, trivial⟩
      refine chain_list (n := 117) (l := [(2, .int .i64 n), (3, .pointer (some ⟨w.heap.size, 0, none⟩)), (4, .pointer (some ⟨w.heap.size + 1, 0, none⟩)), (7, .bool false), (8, .bool false), (9, .bool false), (10, .pointer (some ⟨g10, 0, none⟩)), (11, .pointer (some ⟨g11, 0, none⟩)), (12, .pointer (some ⟨g12, 0, none⟩)), (13, .pointer (some ⟨g13, 0, none⟩)), (79, .bool false)]) HKc HS3 rfl (by kernel_rfl) ?_
      refine rel_move (t := 9) (v := .bool false) rfl trivial (by kernel_rfl) (by kernel_rfl) ?_
      refine rel_move (t := 2) (v := .int .i64 n) rfl trivial (by kernel_rfl) (by kernel_rfl) ?_
      refine rel_val1 (t := 81) (v1 := .int .i64 n) (v := .bool false) trivial (by kernel_rfl) (by kernel_rfl) (by intro ρ w hc h1; go_simp; first | done | omega | (simp; omega)) ?_
      refine rel_move (t := 82) (v := .bool false) rfl trivial (by kernel_rfl) (by kernel_rfl) ?_
      refine rel_skip ⟨83, by kernel_rfl, by kernel_rfl⟩ ?_
      refine rel_skip ⟨83, by kernel_rfl, by kernel_rfl⟩ ?_
      refine rel_val2 (t := 83) (t' := 85) (v1 := .bool false) (v2 := undef) (v := .bool false) trivial (by kernel_rfl) (by kernel_rfl) (by kernel_rfl) (by kernel_rfl) (by intro ρ w hc h1 h2; go_simp) ?_
      refine rel_val2 (t := 80) (t' := 86) (v1 := .bool false) (v2 := .bool false) (v := .bool false) trivial (by kernel_rfl) (by kernel_rfl) (by kernel_rfl) (by kernel_rfl) (by intro ρ w hc h1 h2; go_simp) ?_
      refine rel_move (t := 87) (v := .bool false) rfl trivial (by kernel_rfl) (by kernel_rfl) ?_
      refine rel_move (t := 7) (v := .bool false) rfl ⟨88, by kernel_rfl, by kernel_rfl⟩ (by kernel_rfl) (by kernel_rfl) ?_
      refine rel_move (t := 89) (v := .bool false) rfl ⟨88, by kernel_rfl, by kernel_rfl⟩ (by kernel_rfl) (by kernel_rfl) ?_
      refine rel_skip ⟨90, by kernel_rfl, by kernel_rfl⟩ ?_
      refine rel_skip ⟨90, by kernel_rfl, by kernel_rfl⟩ ?_
      refine rel_val2 (t := 90) (t' := 92) (v1 := .bool false) (v2 := undef) (v := .bool false) ⟨88, by kernel_rfl, by kernel_rfl⟩ (by kernel_rfl) (by kernel_rfl) (by kernel_rfl) (by kernel_rfl) (by intro ρ w hc h1 h2; go_simp) ?_
      refine rel_move (t := 93) (v := .bool false) rfl ⟨88, by kernel_rfl, by kernel_rfl⟩ (by kernel_rfl) (by kernel_rfl) ?_
      refine rel_skip ⟨94, by kernel_rfl, by kernel_rfl⟩ ?_
      refine rel_skip ⟨94, by kernel_rfl, by kernel_rfl⟩ ?_
      refine rel_skip ⟨94, by kernel_rfl, by kernel_rfl⟩ ?_
      refine rel_val2 (t := 94) (t' := 97) (v1 := .bool false) (v2 := undef) (v := .bool false) ⟨88, by kernel_rfl, by kernel_rfl⟩ (by kernel_rfl) (by kernel_rfl) (by kernel_rfl) (by kernel_rfl) (by intro ρ w hc h1 h2; go_simp) ?_
      refine rel_val2 (t := 88) (t' := 98) (v1 := .bool false) (v2 := .bool false) (v := .bool false) trivial (by kernel_rfl) (by kernel_rfl) (by kernel_rfl) (by kernel_rfl) (by intro ρ w hc h1 h2; go_simp) ?_
      refine rel_end (env0 := envL [(2, .int .i64 n), (3, .pointer (some ⟨w.heap.size, 0, none⟩)), (4, .pointer (some ⟨w.heap.size + 1, 0, none⟩)), (7, .bool false), (8, .bool false), (9, .bool false), (10, .pointer (some ⟨g10, 0, none⟩)), (11, .pointer (some ⟨g11, 0, none⟩)), (12, .pointer (some ⟨g12, 0, none⟩)), (13, .pointer (some ⟨g13, 0, none⟩)), (79, .bool false)]) (n := 117) (fun t w' => Knows.env (l := [(2, .int .i64 n), (3, .pointer (some ⟨w.heap.size, 0, none⟩)), (4, .pointer (some ⟨w.heap.size + 1, 0, none⟩)), (7, .bool false), (8, .bool false), (9, .bool false), (10, .pointer (some ⟨g10, 0, none⟩)), (11, .pointer (some ⟨g11, 0, none⟩)), (12, .pointer (some ⟨g12, 0, none⟩)), (13, .pointer (some ⟨g13, 0, none⟩)), (79, .bool false)]) HKc t w') HS3 ?_
      intro a' q' hE' hd' hS' henv'
      exact ⟨rfl, hE', hd'.trans HD3.out, hS', knows_of (henv' 3 (by decide)) (by kernel_rfl), knows_of (henv' 4 (by decide)) (by kernel_rfl), knows_of (henv' 10 (by decide)) (by kernel_rfl), knows_of (henv' 11 (by decide)) (by kernel_rfl), knows_of (henv' 12 (by decide)) (by kernel_rfl), knows_of (henv' 13 (by decide)) (by kernel_rfl), knows_of (henv' 99 (by decide)) (by kernel_rfl), trivial⟩
    · have Ht := Lib.hid ht
      have Hx := Lib.hid hx
      have Hy := Lib.hid hy
      clear ht hx hy
      have HKc : Knows a3 [(2, .int .i64 n), (3, .pointer (some ⟨w.heap.size, 0, none⟩)), (4, .pointer (some ⟨w.heap.size + 1, 0, none⟩)), (7, .bool false), (8, .bool false), (9, .bool false), (10, .pointer (some ⟨g10, 0, none⟩)), (11, .pointer (some ⟨g11, 0, none⟩)), (12, .pointer (some ⟨g12, 0, none⟩)), (13, .pointer (some ⟨g13, 0, none⟩)), (79, .bool false)] := ⟨HK3.1, HK3.2.1, HK3.2.2.1, HK3.2.2.2.1.trans (show (.bool (hasL a n) : Value) = .bool false from (congrArg Value.bool Hx.out)), HK3.2.2.2.2.1.trans (show (.bool (hasL b n) : Value) = .bool false from (congrArg Value.bool Hy.out)), HK3.2.2.2.2.2.1.trans (show (.bool (hasL allN n) : Value) = .bool false from (congrArg Value.bool Ht.out)), HK3.2.2.2.2.2.2.1, HK3.2.2.2.2.2.2.2.1, HK3.2.2.2.2.2.2.2.2.1, HK3.2.2.2.2.2.2.2.2.2.1, HK3.2.2.2.2.2.2.2.2.2.2.1, trivial⟩
      refine chain_list (n := 117) (l := [(2, .int .i64 n), (3, .pointer (some ⟨w.heap.size, 0, none⟩)), (4, .pointer (some ⟨w.heap.size + 1, 0, none⟩)), (7, .bool false), (8, .bool false), (9, .bool false), (10, .pointer (some ⟨g10, 0, none⟩)), (11, .pointer (some ⟨g11, 0, none⟩)), (12, .pointer (some ⟨g12, 0, none⟩)), (13, .pointer (some ⟨g13, 0, none⟩)), (79, .bool false)]) HKc HS3 rfl (by kernel_rfl) ?_
      refine rel_move (t := 9) (v := .bool false) rfl trivial (by kernel_rfl) (by kernel_rfl) ?_
      refine rel_move (t := 2) (v := .int .i64 n) rfl trivial (by kernel_rfl) (by kernel_rfl) ?_
      refine rel_val1 (t := 81) (v1 := .int .i64 n) (v := .bool true) trivial (by kernel_rfl) (by kernel_rfl) (by intro ρ w hc h1; go_simp; first | done | omega | (simp; omega)) ?_
      refine rel_move (t := 82) (v := .bool true) rfl trivial (by kernel_rfl) (by kernel_rfl) ?_
      refine rel_move (t := 2) (v := .int .i64 n) rfl ⟨83, by kernel_rfl, by kernel_rfl⟩ (by kernel_rfl) (by kernel_rfl) ?_
      refine rel_val1 (t := 84) (v1 := .int .i64 n) (v := .bool false) ⟨83, by kernel_rfl, by kernel_rfl⟩ (by kernel_rfl) (by kernel_rfl) (by intro ρ w hc h1; go_simp; first | done | omega | (simp; omega)) ?_
      refine rel_val2 (t := 83) (t' := 85) (v1 := .bool true) (v2 := .bool false) (v := .bool false) trivial (by kernel_rfl) (by kernel_rfl) (by kernel_rfl) (by kernel_rfl) (by intro ρ w hc h1 h2; go_simp) ?_
      refine rel_val2 (t := 80) (t' := 86) (v1 := .bool false) (v2 := .bool false) (v := .bool false) trivial (by kernel_rfl) (by kernel_rfl) (by kernel_rfl) (by kernel_rfl) (by intro ρ w hc h1 h2; go_simp) ?_
      refine rel_move (t := 87) (v := .bool false) rfl trivial (by kernel_rfl) (by kernel_rfl) ?_
      refine rel_move (t := 7) (v := .bool false) rfl ⟨88, by kernel_rfl, by kernel_rfl⟩ (by kernel_rfl) (by kernel_rfl) ?_
      refine rel_move (t := 89) (v := .bool false) rfl ⟨88, by kernel_rfl, by kernel_rfl⟩ (by kernel_rfl) (by kernel_rfl) ?_
      refine rel_skip ⟨90, by kernel_rfl, by kernel_rfl⟩ ?_
      refine rel_skip ⟨90, by kernel_rfl, by kernel_rfl⟩ ?_
      refine rel_val2 (t := 90) (t' := 92) (v1 := .bool false) (v2 := undef) (v := .bool false) ⟨88, by kernel_rfl, by kernel_rfl⟩ (by kernel_rfl) (by kernel_rfl) (by kernel_rfl) (by kernel_rfl) (by intro ρ w hc h1 h2; go_simp) ?_
      refine rel_move (t := 93) (v := .bool false) rfl ⟨88, by kernel_rfl, by kernel_rfl⟩ (by kernel_rfl) (by kernel_rfl) ?_
      refine rel_skip ⟨94, by kernel_rfl, by kernel_rfl⟩ ?_
      refine rel_skip ⟨94, by kernel_rfl, by kernel_rfl⟩ ?_
      refine rel_skip ⟨94, by kernel_rfl, by kernel_rfl⟩ ?_
      refine rel_val2 (t := 94) (t' := 97) (v1 := .bool false) (v2 := undef) (v := .bool false) ⟨88, by kernel_rfl, by kernel_rfl⟩ (by kernel_rfl) (by kernel_rfl) (by kernel_rfl) (by kernel_rfl) (by intro ρ w hc h1 h2; go_simp) ?_
      refine rel_val2 (t := 88) (t' := 98) (v1 := .bool false) (v2 := .bool false) (v := .bool false) trivial (by kernel_rfl) (by kernel_rfl) (by kernel_rfl) (by kernel_rfl) (by intro ρ w hc h1 h2; go_simp) ?_
      refine rel_end (env0 := envL [(2, .int .i64 n), (3, .pointer (some ⟨w.heap.size, 0, none⟩)), (4, .pointer (some ⟨w.heap.size + 1, 0, none⟩)), (7, .bool false), (8, .bool false), (9, .bool false), (10, .pointer (some ⟨g10, 0, none⟩)), (11, .pointer (some ⟨g11, 0, none⟩)), (12, .pointer (some ⟨g12, 0, none⟩)), (13, .pointer (some ⟨g13, 0, none⟩)), (79, .bool false)]) (n := 117) (fun t w' => Knows.env (l := [(2, .int .i64 n), (3, .pointer (some ⟨w.heap.size, 0, none⟩)), (4, .pointer (some ⟨w.heap.size + 1, 0, none⟩)), (7, .bool false), (8, .bool false), (9, .bool false), (10, .pointer (some ⟨g10, 0, none⟩)), (11, .pointer (some ⟨g11, 0, none⟩)), (12, .pointer (some ⟨g12, 0, none⟩)), (13, .pointer (some ⟨g13, 0, none⟩)), (79, .bool false)]) HKc t w') HS3 ?_
      intro a' q' hE' hd' hS' henv'
      exact ⟨rfl, hE', hd'.trans HD3.out, hS', knows_of (henv' 3 (by decide)) (by kernel_rfl), knows_of (henv' 4 (by decide)) (by kernel_rfl), knows_of (henv' 10 (by decide)) (by kernel_rfl), knows_of (henv' 11 (by decide)) (by kernel_rfl), knows_of (henv' 12 (by decide)) (by kernel_rfl), knows_of (henv' 13 (by decide)) (by kernel_rfl), knows_of (henv' 99 (by decide)) (by kernel_rfl), trivial⟩
  rintro a4 q4 ⟨hE4, hd4, HS4, HK4⟩
  have HD4 : Hid (a4.defers = []) := Lib.hid hd4
  clear hd4
  have HB0 := Lib.hid (HB0.out.ext hE4)
  have HN0 := Lib.hid (HN0.out.ext hE4)
  have HB1 := Lib.hid (HB1.out.ext hE4)
  have HN1 := Lib.hid (HN1.out.ext hE4)
  have HB_10 := Lib.hid (HB_10.out.ext hE4)
  have HN_10 := Lib.hid (HN_10.out.ext hE4)
  have HB_11 := Lib.hid (HB_11.out.ext hE4)
  have HN_11 := Lib.hid (HN_11.out.ext hE4)
  have HB_12 := Lib.hid (HB_12.out.ext hE4)
  have HN_12 := Lib.hid (HN_12.out.ext hE4)
  have HB_13 := Lib.hid (HB_13.out.ext hE4)
  have HN_13 := Lib.hid (HN_13.out.ext hE4)
  have HEW := Lib.hid (HEW.out.trans hE4)
  clear hE4
  refine nxt_normal ?_
  refine wp_cond_false (show a4.eval (.tmp 99) = .bool false from HK4.2.2.2.2.2.2.1) ?_
  refine wp_skip ?_
  refine nxt_normal ?_
  refine seq_nxt ?_
  refine chain_list (n := 117) (l := [(3, .pointer (some ⟨w.heap.size, 0, none⟩)), (4, .pointer (some ⟨w.heap.size + 1, 0, none⟩)), (10, .pointer (some ⟨g10, 0, none⟩)), (11, .pointer (some ⟨g11, 0, none⟩)), (12, .pointer (some ⟨g12, 0, none⟩)), (13, .pointer (some ⟨g13, 0, none⟩)), (99, .bool false)]) HK4 HS4 rfl (by kernel_rfl) ?_
  refine rel_load (t := 10) (g := g10) (D := andR a b) trivial (by kernel_rfl) (by kernel_rfl) (fun w h => ⟨_, _, (HB_10.out.ext h).cell0, (HB_10.out.ext h).cell1, HN_10.out.ext h⟩) (by intro ρ w x y h1 h2 h3; go_simp) ?_
  refine rel_call1 (Is (.bool true)) (Is.stable _) trivial (f := 35) (fun u => #[u]) (t := 100) (S := (Nms (andR a b))) (by kernel_rfl) (by kernel_rfl) (by intro ρ w hc hf; go_simp) (fun w u hE hu => conB (validP_any' w u (andR a b) hu (Sz.mono (andR_sz (S0.out) (S1.out)) (by decide)) (inr_can (andR_can _ _))) (congrArg Value.bool (v_and _ _))) ?_
  refine rel_move (t := 101) (v := .bool true) rfl trivial (by kernel_rfl) (by kernel_rfl) ?_
  refine rel_load (t := 11) (g := g11) (D := orR a b) ⟨102, by kernel_rfl, by kernel_rfl⟩ (by kernel_rfl) (by kernel_rfl) (fun w h => ⟨_, _, (HB_11.out.ext h).cell0, (HB_11.out.ext h).cell1, HN_11.out.ext h⟩) (by intro ρ w x y h1 h2 h3; go_simp) ?_
  refine rel_call1 (Is (.bool true)) (Is.stable _) ⟨102, by kernel_rfl, by kernel_rfl⟩ (f := 35) (fun u => #[u]) (t := 103) (S := (Nms (orR a b))) (by kernel_rfl) (by kernel_rfl) (by intro ρ w hc hf; go_simp) (fun w u hE hu => conB (validP_any' w u (orR a b) hu (Sz.mono (orR_sz (S0.out) (S1.out)) (by decide)) (inr_can (orR_can _ _))) (congrArg Value.bool (v_or _ _))) ?_
  refine rel_val2 (t := 102) (t' := 104) (v1 := .bool true) (v2 := .bool true) (v := .bool true) trivial (by kernel_rfl) (by kernel_rfl) (by kernel_rfl) (by kernel_rfl) (by intro ρ w hc h1 h2; go_simp) ?_
  refine rel_move (t := 105) (v := .bool true) rfl trivial (by kernel_rfl) (by kernel_rfl) ?_
  refine rel_load (t := 12) (g := g12) (D := notR a) ⟨106, by kernel_rfl, by kernel_rfl⟩ (by kernel_rfl) (by kernel_rfl) (fun w h => ⟨_, _, (HB_12.out.ext h).cell0, (HB_12.out.ext h).cell1, HN_12.out.ext h⟩) (by intro ρ w x y h1 h2 h3; go_simp) ?_
  refine rel_call1 (Is (.bool true)) (Is.stable _) ⟨106, by kernel_rfl, by kernel_rfl⟩ (f := 35) (fun u => #[u]) (t := 107) (S := (Nms (notR a))) (by kernel_rfl) (by kernel_rfl) (by intro ρ w hc hf; go_simp) (fun w u hE hu => conB (validP_any' w u (notR a) hu (Sz.mono (notR_sz (S0.out)) (by decide)) (inr_can (notR_can _))) (congrArg Value.bool (v_not _))) ?_
  refine rel_val2 (t := 106) (t' := 108) (v1 := .bool true) (v2 := .bool true) (v := .bool true) trivial (by kernel_rfl) (by kernel_rfl) (by kernel_rfl) (by kernel_rfl) (by intro ρ w hc h1 h2; go_simp) ?_
  refine rel_move (t := 109) (v := .bool true) rfl trivial (by kernel_rfl) (by kernel_rfl) ?_
  refine rel_load (t := 13) (g := g13) (D := minusR a b) ⟨110, by kernel_rfl, by kernel_rfl⟩ (by kernel_rfl) (by kernel_rfl) (fun w h => ⟨_, _, (HB_13.out.ext h).cell0, (HB_13.out.ext h).cell1, HN_13.out.ext h⟩) (by intro ρ w x y h1 h2 h3; go_simp) ?_
  refine rel_call1 (Is (.bool true)) (Is.stable _) ⟨110, by kernel_rfl, by kernel_rfl⟩ (f := 35) (fun u => #[u]) (t := 111) (S := (Nms (minusR a b))) (by kernel_rfl) (by kernel_rfl) (by intro ρ w hc hf; go_simp) (fun w u hE hu => conB (validP_any' w u (minusR a b) hu (Sz.mono (minusR_sz (S0.out) (S1.out)) (by decide)) (inr_can (minusR_can _ _))) (congrArg Value.bool (v_minus _ _))) ?_
  refine rel_val2 (t := 110) (t' := 112) (v1 := .bool true) (v2 := .bool true) (v := .bool true) trivial (by kernel_rfl) (by kernel_rfl) (by kernel_rfl) (by kernel_rfl) (by intro ρ w hc h1 h2; go_simp) ?_
  refine rel_move (t := 113) (v := .bool true) rfl trivial (by kernel_rfl) (by kernel_rfl) ?_
  refine rel_call0 (Is (.bool true)) (Is.stable _) ⟨114, by kernel_rfl, by kernel_rfl⟩ (f := 15) #[] (by intro ρ w hc hf; go_simp) (fun w hE => conB (alive_any w) rfl) ?_
  refine rel_val2 (t := 114) (t' := 115) (v1 := .bool true) (v2 := .bool true) (v := .bool true) trivial (by kernel_rfl) (by kernel_rfl) (by kernel_rfl) (by kernel_rfl) (by intro ρ w hc h1 h2; go_simp) ?_
  refine rel_assign (t := 116) (v := .bool true) rfl trivial (by kernel_rfl) (by kernel_rfl) ?_
  refine rel_end (env0 := envL [(3, .pointer (some ⟨w.heap.size, 0, none⟩)), (4, .pointer (some ⟨w.heap.size + 1, 0, none⟩)), (10, .pointer (some ⟨g10, 0, none⟩)), (11, .pointer (some ⟨g11, 0, none⟩)), (12, .pointer (some ⟨g12, 0, none⟩)), (13, .pointer (some ⟨g13, 0, none⟩)), (99, .bool false)]) (n := 117) (fun t w' => Knows.env (l := [(3, .pointer (some ⟨w.heap.size, 0, none⟩)), (4, .pointer (some ⟨w.heap.size + 1, 0, none⟩)), (10, .pointer (some ⟨g10, 0, none⟩)), (11, .pointer (some ⟨g11, 0, none⟩)), (12, .pointer (some ⟨g12, 0, none⟩)), (13, .pointer (some ⟨g13, 0, none⟩)), (99, .bool false)]) HK4 t w') HS4 ?_
  intro a5 q5 hE5 hd5 HS5 henv5
  have HD5 : Hid (a5.defers = []) := Lib.hid (hd5.trans HD4.out)
  clear hd5
  have kn6 : a5.tmps.getD 6 undef = .bool true := knows_of (henv5 6 (by decide)) (by kernel_rfl)
  have HK5 : Knows a5 [(6, .bool true)] := ⟨kn6, trivial⟩
  clear kn6 henv5
  have HB0 := Lib.hid (HB0.out.ext hE5)
  have HN0 := Lib.hid (HN0.out.ext hE5)
  have HB1 := Lib.hid (HB1.out.ext hE5)
  have HN1 := Lib.hid (HN1.out.ext hE5)
  have HB_10 := Lib.hid (HB_10.out.ext hE5)
  have HN_10 := Lib.hid (HN_10.out.ext hE5)
  have HB_11 := Lib.hid (HB_11.out.ext hE5)
  have HN_11 := Lib.hid (HN_11.out.ext hE5)
  have HB_12 := Lib.hid (HB_12.out.ext hE5)
  have HN_12 := Lib.hid (HN_12.out.ext hE5)
  have HB_13 := Lib.hid (HB_13.out.ext hE5)
  have HN_13 := Lib.hid (HN_13.out.ext hE5)
  have HEW := Lib.hid (HEW.out.trans hE5)
  clear hE5
  refine nxt_normal ?_
  refine wp_ret ?_
  refine bodyPost_ret (v := .bool true) ?_ HD5.out ⟨rfl, HEW.out⟩
  rw [results_tmp (t := 6) rfl, HK5.1]
end Go.Proofs.Ytaianhhmmacblaa
