import Derived.Test.YtaianhhmmacblaaAlive
import Derived.Test.YtaianhhmmacblaaOpen
import Derived.Test.YtaianhhmmacblaaRelKV
import Derived.Test.YtaianhhmmacblaaLaws1
/-
  The law NumsetCounts.
-/
namespace Go.Proofs.Ytaianhhmmacblaa
open Go Go.RowKit
attribute [local irreducible] relSeq relSeqV endE upd

set_option maxRecDepth 100000 in
set_option maxHeartbeats 4000000 in
theorem lawCounts (w : World) (v0 : Value) (a : Nm) (h0 : NmAt w v0 a) (r0 : InR a.fracs) (v1 : Value) (b : Nm) (h1 : NmAt w v1 b) (r1 : InR b.fracs) (n : Int) (hn : -9223372036854775808 ≤ n ∧ n ≤ 9223372036854775807) :
    Calls Try.prog 5 #[v0, v1, .int .i64 n] w fun e w' => e = .returned (.bool true) ∧ Ext w w' := by
  have g0 := h0
  obtain ⟨A0, c0, B0, e0, rfl, x0, y0⟩ := g0
  have g1 := h1
  obtain ⟨A1, c1, B1, e1, rfl, x1, y1⟩ := g1
  have b0 : BlkN ((w.alloc (.cells #[.slice A0 a.ints.length c0, .slice B0 a.fracs.length e0] 24)).alloc (.cells #[.slice A1 b.ints.length c1, .slice B1 b.fracs.length e1] 24)) w.heap.size (.slice A0 a.ints.length c0) (.slice B0 a.fracs.length e0) := by simpa using (BlkN.new w (.slice A0 a.ints.length c0) (.slice B0 a.fracs.length e0)).alloc _
  have b1 : BlkN ((w.alloc (.cells #[.slice A0 a.ints.length c0, .slice B0 a.fracs.length e0] 24)).alloc (.cells #[.slice A1 b.ints.length c1, .slice B1 b.fracs.length e1] 24)) (w.heap.size + 1) (.slice A1 b.ints.length c1) (.slice B1 b.fracs.length e1) := by simpa using BlkN.new (w.alloc (.cells #[.slice A0 a.ints.length c0, .slice B0 a.fracs.length e0] 24)) (.slice A1 b.ints.length c1) (.slice B1 b.fracs.length e1)
  have hEW : Ext w ((w.alloc (.cells #[.slice A0 a.ints.length c0, .slice B0 a.fracs.length e0] 24)).alloc (.cells #[.slice A1 b.ints.length c1, .slice B1 b.fracs.length e1] 24)) := ((Ext.refl w).alloc _).alloc _
  have hsz : ((w.alloc (.cells #[.slice A0 a.ints.length c0, .slice B0 a.fracs.length e0] 24)).alloc (.cells #[.slice A1 b.ints.length c1, .slice B1 b.fracs.length e1] 24)).heap.size = w.heap.size + 2 := by simp
  go_enter Try.func5, Try.ntmps5
  generalize hW0 : ((w.alloc (.cells #[.slice A0 a.ints.length c0, .slice B0 a.fracs.length e0] 24)).alloc (.cells #[.slice A1 b.ints.length c1, .slice B1 b.fracs.length e1] 24)) = W at *
  have hh := heap_alloc_new W (.cells #[.slice A0 a.ints.length c0, .slice B0 a.fracs.length e0, .slice A1 b.ints.length c1, .slice B1 b.fracs.length e1] 24)
  have hE1 := (Ext.refl W).alloc (.cells #[.slice A0 a.ints.length c0, .slice B0 a.fracs.length e0, .slice A1 b.ints.length c1, .slice B1 b.fracs.length e1] 24)
  have hz1 : (W.alloc (.cells #[.slice A0 a.ints.length c0, .slice B0 a.fracs.length e0, .slice A1 b.ints.length c1, .slice B1 b.fracs.length e1] 24)).heap.size = W.heap.size + 1 := by simp
  have H1 := Lib.hid hh
  have E1 := Lib.hid hE1
  have Z1 := Lib.hid hz1
  have EW := Lib.hid hEW
  have SZ := Lib.hid hsz
  have f0a := b0.cell0
  have f0b := b0.cell1
  have HB0 := Lib.hid b0
  have HN0 := Lib.hid (h0.ext hEW)
  have HR0 := Lib.hid r0
  have f1a := b1.cell0
  have f1b := b1.cell1
  have HB1 := Lib.hid b1
  have HN1 := Lib.hid (h1.ext hEW)
  have HR1 := Lib.hid r1
  clear hh hE1 hz1 hEW hsz b0 h0 r0 x0 y0 b1 h1 r1 x1 y1
  have hfew : Calls Try.prog 19 #[.slice (some ⟨W.heap.size, 0, none⟩) 2 2] (W.alloc (.cells #[.slice A0 a.ints.length c0, .slice B0 a.fracs.length e0, .slice A1 b.ints.length c1, .slice B1 b.fracs.length e1] 24)) fun e w' => e = .returned (.bool ([(a.ints.length, a.fracs.length), (b.ints.length, b.fracs.length)].all fewB)) ∧ Ext (W.alloc (.cells #[.slice A0 a.ints.length c0, .slice B0 a.fracs.length e0, .slice A1 b.ints.length c1, .slice B1 b.fracs.length e1] 24)) w' := by
    refine few_any (W.alloc (.cells #[.slice A0 a.ints.length c0, .slice B0 a.fracs.length e0, .slice A1 b.ints.length c1, .slice B1 b.fracs.length e1] 24)) W.heap.size [(a.ints.length, a.fracs.length), (b.ints.length, b.fracs.length)] 2 (by rw [Z1.out]; omega) ?_ (by simp)
    intro k x hk
    have hh := H1.out
    unfold World.cell?
    match k, hk with
    | 0, hk => injection hk with hk; subst hk; rw [hh]; exact ⟨_, _, _, _, rfl, rfl⟩
    | 1, hk => injection hk with hk; subst hk; rw [hh]; exact ⟨_, _, _, _, rfl, rfl⟩
  have HFEW := Lib.hid hfew
  clear hfew H1
  cases hf : [(a.ints.length, a.fracs.length), (b.ints.length, b.fracs.length)].all fewB
  · rw [hf] at HFEW
    clear hf HB0 HN0 HR0 HB1 HN1 HR1
    go_wp2_with fail
    refine HFEW.out.mono ?_
    rintro e w1 ⟨rfl, hE1⟩
    have HE1 := Lib.hid (EW.out.trans (E1.out.trans hE1))
    clear hE1 HFEW
    go_wp2_with fail
    refine (alive_any _).mono ?_
    rintro e w2 ⟨rfl, hE2⟩
    have HE2 := Lib.hid (HE1.out.trans hE2)
    clear hE2
    go_wp2
    refine bodyPost_ret (results_tmp rfl _ _ _) rfl ⟨rfl, HE2.out⟩
  rw [hf] at HFEW
  have S0 : Hid (Sz 8 a) := Lib.hid (by simp [fewB] at hf; exact ⟨by omega, by omega⟩)
  have S1 : Hid (Sz 8 b) := Lib.hid (by simp [fewB] at hf; exact ⟨by omega, by omega⟩)
  clear hf
  go_wp2_with fail
  refine HFEW.out.mono ?_
  rintro e w1 ⟨rfl, hE1⟩
  have HB0 := Lib.hid (HB0.out.ext (E1.out.trans hE1))
  have HN0 := Lib.hid (HN0.out.ext (E1.out.trans hE1))
  have HB1 := Lib.hid (HB1.out.ext (E1.out.trans hE1))
  have HN1 := Lib.hid (HN1.out.ext (E1.out.trans hE1))
  have HEW := Lib.hid (EW.out.trans (E1.out.trans hE1))
  clear hE1 HFEW hW0 E1 Z1 EW f0a f0b f1a f1b
  have f0a := HB0.out.cell0
  have f0b := HB0.out.cell1
  have f1a := HB1.out.cell0
  have f1b := HB1.out.cell1
  go_wp2_with fail
  refine (countP_any _ _ a HN0.out (S0.out.mono (by omega)) HR0.out).mono ?_
  rintro e w2 ⟨rfl, hE2⟩
  rw [count_eq]
  have HB0 := Lib.hid (HB0.out.ext hE2)
  have HN0 := Lib.hid (HN0.out.ext hE2)
  have HB1 := Lib.hid (HB1.out.ext hE2)
  have HN1 := Lib.hid (HN1.out.ext hE2)
  have HEW := Lib.hid (HEW.out.trans hE2)
  clear hE2 f0a f0b f1a f1b
  have f0a := HB0.out.cell0
  have f0b := HB0.out.cell1
  have f1a := HB1.out.cell0
  have f1b := HB1.out.cell1
  go_wp2_with fail
  clear f0a f0b f1a f1b
  have c1 := count_bd a
  have c2 := count_bd b
  have c3 := count_bd (orR a b)
  have c4 := count_bd (andR a b)
  have c5 := count_bd (notR a)
  have c6 := count_bd allN
  have c7 := cnt_two a b
  have c8 := cnt_not a
  refine chain_draw (n := 118) (l := [(2, .int .i64 n), (3, .pointer (some ⟨w.heap.size, 0, none⟩)), (4, .pointer (some ⟨w.heap.size + 1, 0, none⟩)), (7, .int .i64 (countR a))]) (by exact ⟨rfl, rfl, rfl, rfl, trivial⟩) (by rfl) (by kernel_rfl) rfl (by kernel_rfl) (by kernel_rfl) ?_
  refine rel_move (t := 7) (v := .int .i64 (countR a)) rfl trivial (by kernel_rfl) (by kernel_rfl) ?_
  refine rel_load (t := 4) (g := w.heap.size + 1) (D := b) trivial (by kernel_rfl) (by kernel_rfl) (fun w h => ⟨_, _, (HB1.out.ext h).cell0, (HB1.out.ext h).cell1, HN1.out.ext h⟩) (by intro ρ w x y h1 h2 h3; go_simp) ?_
  refine rel_call1 (Is (.int .i64 (countR b))) (Is.stable _) trivial (f := 24) (fun u => #[u]) (t := 21) (S := (Nms (b))) (by kernel_rfl) (by kernel_rfl) (by intro ρ w hc hf; go_simp) (fun w u hE hu => conB (countP_any w u b hu (Sz.mono (S1.out) (by decide)) HR1.out) (congrArg (Value.int .i64) (count_eq _))) ?_
  refine rel_val2 (t := 20) (t' := 22) (v1 := .int .i64 (countR a)) (v2 := .int .i64 (countR b)) (v := .int .i64 (countR a + countR b)) trivial (by kernel_rfl) (by kernel_rfl) (by kernel_rfl) (by kernel_rfl) (by intro ρ w hc h1 h2; go_simp; first | done | exact wrap_sml (by omega) | omega) ?_
  refine rel_load (t := 3) (g := w.heap.size) (D := a) trivial (by kernel_rfl) (by kernel_rfl) (fun w h => ⟨_, _, (HB0.out.ext h).cell0, (HB0.out.ext h).cell1, HN0.out.ext h⟩) (by intro ρ w x y h1 h2 h3; go_simp) ?_
  refine rel_load (t := 4) (g := w.heap.size + 1) (D := b) trivial (by kernel_rfl) (by kernel_rfl) (fun w h => ⟨_, _, (HB1.out.ext h).cell0, (HB1.out.ext h).cell1, HN1.out.ext h⟩) (by intro ρ w x y h1 h2 h3; go_simp) ?_
  refine rel_call2 (Nms (orR a b)) (Nms.stable _) trivial (f := 28) (fun u u' => #[u, u']) (t := 24) (t' := 25) (S := (Nms (a))) (S' := (Nms (b))) (by kernel_rfl) (by kernel_rfl) (by kernel_rfl) (by kernel_rfl) (by intro ρ w hc hf; go_simp) (fun w u u' hE hu hu' => orP_any w u a hu u' b hu' (Sz.mono (S0.out) (by decide)) (Sz.mono (S1.out) (by decide)) HR0.out HR1.out) ?_
  refine rel_call1 (Is (.int .i64 (countR (orR a b)))) (Is.stable _) trivial (f := 24) (fun u => #[u]) (t := 26) (S := (Nms (orR a b))) (by kernel_rfl) (by kernel_rfl) (by intro ρ w hc hf; go_simp) (fun w u hE hu => conB (countP_any w u (orR a b) hu (Sz.mono (orR_sz (S0.out) (S1.out)) (by decide)) (inr_can (orR_can _ _))) (congrArg (Value.int .i64) (count_eq _))) ?_
  refine rel_load (t := 3) (g := w.heap.size) (D := a) trivial (by kernel_rfl) (by kernel_rfl) (fun w h => ⟨_, _, (HB0.out.ext h).cell0, (HB0.out.ext h).cell1, HN0.out.ext h⟩) (by intro ρ w x y h1 h2 h3; go_simp) ?_
  refine rel_load (t := 4) (g := w.heap.size + 1) (D := b) trivial (by kernel_rfl) (by kernel_rfl) (fun w h => ⟨_, _, (HB1.out.ext h).cell0, (HB1.out.ext h).cell1, HN1.out.ext h⟩) (by intro ρ w x y h1 h2 h3; go_simp) ?_
  refine rel_call2 (Nms (andR a b)) (Nms.stable _) trivial (f := 29) (fun u u' => #[u, u']) (t := 28) (t' := 29) (S := (Nms (a))) (S' := (Nms (b))) (by kernel_rfl) (by kernel_rfl) (by kernel_rfl) (by kernel_rfl) (by intro ρ w hc hf; go_simp) (fun w u u' hE hu hu' => (andP_eq a b) ▸ andP_any w u a hu u' b hu' (Sz.mono (S0.out) (by decide)) (Sz.mono (S1.out) (by decide)) HR0.out HR1.out) ?_
  refine rel_call1 (Is (.int .i64 (countR (andR a b)))) (Is.stable _) trivial (f := 24) (fun u => #[u]) (t := 30) (S := (Nms (andR a b))) (by kernel_rfl) (by kernel_rfl) (by intro ρ w hc hf; go_simp) (fun w u hE hu => conB (countP_any w u (andR a b) hu (Sz.mono (andR_sz (S0.out) (S1.out)) (by decide)) (inr_can (andR_can _ _))) (congrArg (Value.int .i64) (count_eq _))) ?_
  refine rel_val2 (t := 27) (t' := 31) (v1 := .int .i64 (countR (orR a b))) (v2 := .int .i64 (countR (andR a b))) (v := .int .i64 (countR (orR a b) + countR (andR a b))) trivial (by kernel_rfl) (by kernel_rfl) (by kernel_rfl) (by kernel_rfl) (by intro ρ w hc h1 h2; go_simp; first | done | exact wrap_sml (by omega) | omega) ?_
  refine rel_val2 (t := 23) (t' := 32) (v1 := .int .i64 (countR a + countR b)) (v2 := .int .i64 (countR (orR a b) + countR (andR a b))) (v := .bool false) trivial (by kernel_rfl) (by kernel_rfl) (by kernel_rfl) (by kernel_rfl) (by intro ρ w hc h1 h2; go_simp; first | done | omega | (simp; omega)) ?_
  refine rel_move (t := 33) (v := .bool false) rfl trivial (by kernel_rfl) (by kernel_rfl) ?_
  refine rel_move (t := 7) (v := .int .i64 (countR a)) rfl ⟨34, by kernel_rfl, by kernel_rfl⟩ (by kernel_rfl) (by kernel_rfl) ?_
  refine rel_load (t := 3) (g := w.heap.size) (D := a) ⟨34, by kernel_rfl, by kernel_rfl⟩ (by kernel_rfl) (by kernel_rfl) (fun w h => ⟨_, _, (HB0.out.ext h).cell0, (HB0.out.ext h).cell1, HN0.out.ext h⟩) (by intro ρ w x y h1 h2 h3; go_simp) ?_
  refine rel_call1 (Nms (notR a)) (Nms.stable _) ⟨34, by kernel_rfl, by kernel_rfl⟩ (f := 30) (fun u => #[u]) (t := 36) (S := (Nms (a))) (by kernel_rfl) (by kernel_rfl) (by intro ρ w hc hf; go_simp) (fun w u hE hu => (notP_eq a) ▸ notP_any w u a hu (Sz.mono (S0.out) (by decide)) HR0.out) ?_
  refine rel_call1 (Is (.int .i64 (countR (notR a)))) (Is.stable _) ⟨34, by kernel_rfl, by kernel_rfl⟩ (f := 24) (fun u => #[u]) (t := 37) (S := (Nms (notR a))) (by kernel_rfl) (by kernel_rfl) (by intro ρ w hc hf; go_simp) (fun w u hE hu => conB (countP_any w u (notR a) hu (Sz.mono (notR_sz (S0.out)) (by decide)) (inr_can (notR_can _))) (congrArg (Value.int .i64) (count_eq _))) ?_
  refine rel_val2 (t := 35) (t' := 38) (v1 := .int .i64 (countR a)) (v2 := .int .i64 (countR (notR a))) (v := .int .i64 (countR a + countR (notR a))) ⟨34, by kernel_rfl, by kernel_rfl⟩ (by kernel_rfl) (by kernel_rfl) (by kernel_rfl) (by kernel_rfl) (by intro ρ w hc h1 h2; go_simp; first | done | exact wrap_sml (by omega) | omega) ?_
  refine rel_call0 (Nms (allN)) (Nms.stable _) ⟨34, by kernel_rfl, by kernel_rfl⟩ (f := 31) #[] (by intro ρ w hc hf; go_simp) (fun w hE => allP_any w) ?_
  refine rel_call1 (Is (.int .i64 (countR allN))) (Is.stable _) ⟨34, by kernel_rfl, by kernel_rfl⟩ (f := 24) (fun u => #[u]) (t := 40) (S := (Nms (allN))) (by kernel_rfl) (by kernel_rfl) (by intro ρ w hc hf; go_simp) (fun w u hE hu => conB (countP_any w u allN hu (Sz.mono ((⟨by decide, by decide⟩ : Sz 1 allN)) (by decide)) (inr_can allN_can)) (congrArg (Value.int .i64) (count_eq _))) ?_
  refine rel_val2 (t := 39) (t' := 41) (v1 := .int .i64 (countR a + countR (notR a))) (v2 := .int .i64 (countR allN)) (v := .bool false) ⟨34, by kernel_rfl, by kernel_rfl⟩ (by kernel_rfl) (by kernel_rfl) (by kernel_rfl) (by kernel_rfl) (by intro ρ w hc h1 h2; go_simp; first | done | omega | (simp; omega)) ?_
  refine rel_val2 (t := 34) (t' := 42) (v1 := .bool false) (v2 := .bool false) (v := .bool false) trivial (by kernel_rfl) (by kernel_rfl) (by kernel_rfl) (by kernel_rfl) (by intro ρ w hc h1 h2; go_simp) ?_
  refine rel_move (t := 43) (v := .bool false) rfl trivial (by kernel_rfl) (by kernel_rfl) ?_
  refine rel_move (t := 7) (v := .int .i64 (countR a)) rfl ⟨44, by kernel_rfl, by kernel_rfl⟩ (by kernel_rfl) (by kernel_rfl) ?_
  refine rel_val1 (t := 45) (v1 := .int .i64 (countR a)) (v := .bool false) ⟨44, by kernel_rfl, by kernel_rfl⟩ (by kernel_rfl) (by kernel_rfl) (by intro ρ w hc h1; go_simp; first | done | omega | (simp; omega)) ?_
  refine rel_val2 (t := 44) (t' := 46) (v1 := .bool false) (v2 := .bool false) (v := .bool false) trivial (by kernel_rfl) (by kernel_rfl) (by kernel_rfl) (by kernel_rfl) (by intro ρ w hc h1 h2; go_simp) ?_
  refine rel_end (env0 := envL [(2, .int .i64 n), (3, .pointer (some ⟨w.heap.size, 0, none⟩)), (4, .pointer (some ⟨w.heap.size + 1, 0, none⟩)), (7, .int .i64 (countR a))]) (n := 118) (fun t w' => Knows.env (l := [(2, .int .i64 n), (3, .pointer (some ⟨w.heap.size, 0, none⟩)), (4, .pointer (some ⟨w.heap.size + 1, 0, none⟩)), (7, .int .i64 (countR a))]) (by exact ⟨rfl, rfl, rfl, rfl, trivial⟩) t w') (by rfl) ?_
  intro a1 q1 hE1 hd1 HS1 henv1
  have HD1 : Hid (a1.defers = []) := Lib.hid (hd1.trans rfl)
  clear hd1
  have kn2 : a1.tmps.getD 2 undef = .int .i64 n := knows_of (henv1 2 (by decide)) (by kernel_rfl)
  have kn3 : a1.tmps.getD 3 undef = .pointer (some ⟨w.heap.size, 0, none⟩) := knows_of (henv1 3 (by decide)) (by kernel_rfl)
  have kn4 : a1.tmps.getD 4 undef = .pointer (some ⟨w.heap.size + 1, 0, none⟩) := knows_of (henv1 4 (by decide)) (by kernel_rfl)
  have kn7 : a1.tmps.getD 7 undef = .int .i64 (countR a) := knows_of (henv1 7 (by decide)) (by kernel_rfl)
  have kn47 : a1.tmps.getD 47 undef = .bool false := knows_of (henv1 47 (by decide)) (by kernel_rfl)
  have HK1 : Knows a1 [(2, .int .i64 n), (3, .pointer (some ⟨w.heap.size, 0, none⟩)), (4, .pointer (some ⟨w.heap.size + 1, 0, none⟩)), (7, .int .i64 (countR a)), (47, .bool false)] := ⟨kn2, kn3, kn4, kn7, kn47, trivial⟩
  clear kn2 kn3 kn4 kn7 kn47 henv1
  have HB0 := Lib.hid (HB0.out.ext hE1)
  have HN0 := Lib.hid (HN0.out.ext hE1)
  have HB1 := Lib.hid (HB1.out.ext hE1)
  have HN1 := Lib.hid (HN1.out.ext hE1)
  have HEW := Lib.hid (HEW.out.trans hE1)
  clear hE1
  apply_assumption
  refine wp_cond_false (show a1.eval (.tmp 47) = .bool false from HK1.2.2.2.2.1) ?_
  refine wp_skip ?_
  apply_assumption
  refine seq_nxt ?_
  refine chain_list (n := 118) (l := [(2, .int .i64 n), (3, .pointer (some ⟨w.heap.size, 0, none⟩)), (4, .pointer (some ⟨w.heap.size + 1, 0, none⟩)), (7, .int .i64 (countR a)), (47, .bool false)]) HK1 HS1 rfl (by kernel_rfl) ?_
  refine rel_load (t := 3) (g := w.heap.size) (D := a) trivial (by kernel_rfl) (by kernel_rfl) (fun w h => ⟨_, _, (HB0.out.ext h).cell0, (HB0.out.ext h).cell1, HN0.out.ext h⟩) (by intro ρ w x y h1 h2 h3; go_simp) ?_
  refine rel_call1 (Is (.tuple #[.int .i64 (leastR a).1, .bool (leastR a).2])) (Is.stable _) trivial (f := 20) (fun u => #[u]) (t := 49) (S := (Nms (a))) (by kernel_rfl) (by kernel_rfl) (by intro ρ w hc hf; go_simp) (fun w u hE hu => conB (leastP_any w u a hu (Sz.mono (S0.out) (by decide)) HR0.out) (by rw [least_eq])) ?_
  refine rel_move (t := 50) (v := .tuple #[.int .i64 (leastR a).1, .bool (leastR a).2]) rfl trivial (by kernel_rfl) (by kernel_rfl) ?_
  refine rel_val1 (t := 48) (v1 := .tuple #[.int .i64 (leastR a).1, .bool (leastR a).2]) (v := .int .i64 (leastR a).1) trivial (by kernel_rfl) (by kernel_rfl) (by intro ρ w hc h1; go_simp) ?_
  refine rel_val1 (t := 48) (v1 := .tuple #[.int .i64 (leastR a).1, .bool (leastR a).2]) (v := .bool (leastR a).2) trivial (by kernel_rfl) (by kernel_rfl) (by intro ρ w hc h1; go_simp) ?_
  refine rel_assign (t := 51) (v := .int .i64 (leastR a).1) rfl trivial (by kernel_rfl) (by kernel_rfl) ?_
  refine rel_assign (t := 52) (v := .bool (leastR a).2) rfl trivial (by kernel_rfl) (by kernel_rfl) ?_
  refine rel_end (env0 := envL [(2, .int .i64 n), (3, .pointer (some ⟨w.heap.size, 0, none⟩)), (4, .pointer (some ⟨w.heap.size + 1, 0, none⟩)), (7, .int .i64 (countR a)), (47, .bool false)]) (n := 118) (fun t w' => Knows.env (l := [(2, .int .i64 n), (3, .pointer (some ⟨w.heap.size, 0, none⟩)), (4, .pointer (some ⟨w.heap.size + 1, 0, none⟩)), (7, .int .i64 (countR a)), (47, .bool false)]) HK1 t w') HS1 ?_
  intro a2 q2 hE2 hd2 HS2 henv2
  have HD2 : Hid (a2.defers = []) := Lib.hid (hd2.trans HD1.out)
  clear hd2
  have kn2 : a2.tmps.getD 2 undef = .int .i64 n := knows_of (henv2 2 (by decide)) (by kernel_rfl)
  have kn3 : a2.tmps.getD 3 undef = .pointer (some ⟨w.heap.size, 0, none⟩) := knows_of (henv2 3 (by decide)) (by kernel_rfl)
  have kn4 : a2.tmps.getD 4 undef = .pointer (some ⟨w.heap.size + 1, 0, none⟩) := knows_of (henv2 4 (by decide)) (by kernel_rfl)
  have kn7 : a2.tmps.getD 7 undef = .int .i64 (countR a) := knows_of (henv2 7 (by decide)) (by kernel_rfl)
  have kn8 : a2.tmps.getD 8 undef = .int .i64 (leastR a).1 := knows_of (henv2 8 (by decide)) (by kernel_rfl)
  have kn9 : a2.tmps.getD 9 undef = .bool (leastR a).2 := knows_of (henv2 9 (by decide)) (by kernel_rfl)
  have HK2 : Knows a2 [(2, .int .i64 n), (3, .pointer (some ⟨w.heap.size, 0, none⟩)), (4, .pointer (some ⟨w.heap.size + 1, 0, none⟩)), (7, .int .i64 (countR a)), (8, .int .i64 (leastR a).1), (9, .bool (leastR a).2)] := ⟨kn2, kn3, kn4, kn7, kn8, kn9, trivial⟩
  clear kn2 kn3 kn4 kn7 kn8 kn9 henv2
  have HB0 := Lib.hid (HB0.out.ext hE2)
  have HN0 := Lib.hid (HN0.out.ext hE2)
  have HB1 := Lib.hid (HB1.out.ext hE2)
  have HN1 := Lib.hid (HN1.out.ext hE2)
  have HEW := Lib.hid (HEW.out.trans hE2)
  clear hE2
  refine nxt_normal ?_
  refine seq_nxt ?_
  refine chain_list (n := 118) (l := [(2, .int .i64 n), (3, .pointer (some ⟨w.heap.size, 0, none⟩)), (4, .pointer (some ⟨w.heap.size + 1, 0, none⟩)), (7, .int .i64 (countR a)), (8, .int .i64 (leastR a).1), (9, .bool (leastR a).2)]) HK2 HS2 rfl (by kernel_rfl) ?_
  refine rel_load (t := 3) (g := w.heap.size) (D := a) trivial (by kernel_rfl) (by kernel_rfl) (fun w h => ⟨_, _, (HB0.out.ext h).cell0, (HB0.out.ext h).cell1, HN0.out.ext h⟩) (by intro ρ w x y h1 h2 h3; go_simp) ?_
  refine rel_call1 (Is (.tuple #[.int .i64 (singleR a).1, .bool (singleR a).2])) (Is.stable _) trivial (f := 22) (fun u => #[u]) (t := 54) (S := (Nms (a))) (by kernel_rfl) (by kernel_rfl) (by intro ρ w hc hf; go_simp) (fun w u hE hu => conB (singleP_any w u a hu (Sz.mono (S0.out) (by decide)) HR0.out) (by rw [single_eq])) ?_
  refine rel_move (t := 55) (v := .tuple #[.int .i64 (singleR a).1, .bool (singleR a).2]) rfl trivial (by kernel_rfl) (by kernel_rfl) ?_
  refine rel_val1 (t := 53) (v1 := .tuple #[.int .i64 (singleR a).1, .bool (singleR a).2]) (v := .int .i64 (singleR a).1) trivial (by kernel_rfl) (by kernel_rfl) (by intro ρ w hc h1; go_simp) ?_
  refine rel_val1 (t := 53) (v1 := .tuple #[.int .i64 (singleR a).1, .bool (singleR a).2]) (v := .bool (singleR a).2) trivial (by kernel_rfl) (by kernel_rfl) (by intro ρ w hc h1; go_simp) ?_
  refine rel_assign (t := 56) (v := .int .i64 (singleR a).1) rfl trivial (by kernel_rfl) (by kernel_rfl) ?_
  refine rel_assign (t := 57) (v := .bool (singleR a).2) rfl trivial (by kernel_rfl) (by kernel_rfl) ?_
  refine rel_end (env0 := envL [(2, .int .i64 n), (3, .pointer (some ⟨w.heap.size, 0, none⟩)), (4, .pointer (some ⟨w.heap.size + 1, 0, none⟩)), (7, .int .i64 (countR a)), (8, .int .i64 (leastR a).1), (9, .bool (leastR a).2)]) (n := 118) (fun t w' => Knows.env (l := [(2, .int .i64 n), (3, .pointer (some ⟨w.heap.size, 0, none⟩)), (4, .pointer (some ⟨w.heap.size + 1, 0, none⟩)), (7, .int .i64 (countR a)), (8, .int .i64 (leastR a).1), (9, .bool (leastR a).2)]) HK2 t w') HS2 ?_
  intro a3 q3 hE3 hd3 HS3 henv3
  have HD3 : Hid (a3.defers = []) := Lib.hid (hd3.trans HD2.out)
  clear hd3
  have kn2 : a3.tmps.getD 2 undef = .int .i64 n := knows_of (henv3 2 (by decide)) (by kernel_rfl)
  have kn3 : a3.tmps.getD 3 undef = .pointer (some ⟨w.heap.size, 0, none⟩) := knows_of (henv3 3 (by decide)) (by kernel_rfl)
  have kn4 : a3.tmps.getD 4 undef = .pointer (some ⟨w.heap.size + 1, 0, none⟩) := knows_of (henv3 4 (by decide)) (by kernel_rfl)
  have kn7 : a3.tmps.getD 7 undef = .int .i64 (countR a) := knows_of (henv3 7 (by decide)) (by kernel_rfl)
  have kn8 : a3.tmps.getD 8 undef = .int .i64 (leastR a).1 := knows_of (henv3 8 (by decide)) (by kernel_rfl)
  have kn9 : a3.tmps.getD 9 undef = .bool (leastR a).2 := knows_of (henv3 9 (by decide)) (by kernel_rfl)
  have kn10 : a3.tmps.getD 10 undef = .int .i64 (singleR a).1 := knows_of (henv3 10 (by decide)) (by kernel_rfl)
  have kn11 : a3.tmps.getD 11 undef = .bool (singleR a).2 := knows_of (henv3 11 (by decide)) (by kernel_rfl)
  have HK3 : Knows a3 [(2, .int .i64 n), (3, .pointer (some ⟨w.heap.size, 0, none⟩)), (4, .pointer (some ⟨w.heap.size + 1, 0, none⟩)), (7, .int .i64 (countR a)), (8, .int .i64 (leastR a).1), (9, .bool (leastR a).2), (10, .int .i64 (singleR a).1), (11, .bool (singleR a).2)] := ⟨kn2, kn3, kn4, kn7, kn8, kn9, kn10, kn11, trivial⟩
  clear kn2 kn3 kn4 kn7 kn8 kn9 kn10 kn11 henv3
  have HB0 := Lib.hid (HB0.out.ext hE3)
  have HN0 := Lib.hid (HN0.out.ext hE3)
  have HB1 := Lib.hid (HB1.out.ext hE3)
  have HN1 := Lib.hid (HN1.out.ext hE3)
  have HEW := Lib.hid (HEW.out.trans hE3)
  clear hE3
  refine nxt_normal ?_
  refine seq_nxt (seq_nxt ?_)
  refine wp_split (fun a' w' => Ext q3 w' ∧ a'.defers = [] ∧ a'.tmps.size = 118 ∧ Knows a' [(2, .int .i64 n), (3, .pointer (some ⟨w.heap.size, 0, none⟩)), (4, .pointer (some ⟨w.heap.size + 1, 0, none⟩)), (8, .int .i64 (leastR a).1), (100, .bool false)]) ?_ ?_
  · rcases least_ways a with ⟨k1, hl, hs⟩ | ⟨k1, k2, hl, hs, hh⟩ | ⟨k1, hl, hs, hh⟩
    · have Hl := Lib.hid hl
      have Hs := Lib.hid hs
      clear hl hs
      have HKc : Knows a3 [(2, .int .i64 n), (3, .pointer (some ⟨w.heap.size, 0, none⟩)), (4, .pointer (some ⟨w.heap.size + 1, 0, none⟩)), (7, .int .i64 (countR a)), (8, .int .i64 0), (9, .bool false), (10, .int .i64 0), (11, .bool false)] := ⟨HK3.1, HK3.2.1, HK3.2.2.1, HK3.2.2.2.1, HK3.2.2.2.2.1.trans (show (.int .i64 (leastR a).1 : Value) = .int .i64 0 from (by rw [Hl.out])), HK3.2.2.2.2.2.1.trans (show (.bool (leastR a).2 : Value) = .bool false from (by rw [Hl.out])), HK3.2.2.2.2.2.2.1.trans (show (.int .i64 (singleR a).1 : Value) = .int .i64 0 from (by rw [Hs.out])), HK3.2.2.2.2.2.2.2.1.trans (show (.bool (singleR a).2 : Value) = .bool false from (by rw [Hs.out])), trivial⟩
      refine chain_list (n := 118) (l := [(2, .int .i64 n), (3, .pointer (some ⟨w.heap.size, 0, none⟩)), (4, .pointer (some ⟨w.heap.size + 1, 0, none⟩)), (7, .int .i64 (countR a)), (8, .int .i64 0), (9, .bool false), (10, .int .i64 0), (11, .bool false)]) HKc HS3 rfl (by kernel_rfl) ?_
      refine rel_move (t := 9) (v := .bool false) rfl trivial (by kernel_rfl) (by kernel_rfl) ?_
      refine rel_move (t := 7) (v := .int .i64 (countR a)) rfl trivial (by kernel_rfl) (by kernel_rfl) ?_
      refine rel_val1 (t := 59) (v1 := .int .i64 (countR a)) (v := .bool false) trivial (by kernel_rfl) (by kernel_rfl) (by intro ρ w hc h1; go_simp; first | done | omega | (simp; omega)) ?_
      refine rel_val2 (t := 58) (t' := 60) (v1 := .bool false) (v2 := .bool false) (v := .bool false) trivial (by kernel_rfl) (by kernel_rfl) (by kernel_rfl) (by kernel_rfl) (by intro ρ w hc h1 h2; go_simp) ?_
      refine rel_move (t := 61) (v := .bool false) rfl trivial (by kernel_rfl) (by kernel_rfl) ?_
      refine rel_move (t := 11) (v := .bool false) rfl ⟨62, by kernel_rfl, by kernel_rfl⟩ (by kernel_rfl) (by kernel_rfl) ?_
      refine rel_move (t := 7) (v := .int .i64 (countR a)) rfl ⟨62, by kernel_rfl, by kernel_rfl⟩ (by kernel_rfl) (by kernel_rfl) ?_
      refine rel_val1 (t := 64) (v1 := .int .i64 (countR a)) (v := .bool false) ⟨62, by kernel_rfl, by kernel_rfl⟩ (by kernel_rfl) (by kernel_rfl) (by intro ρ w hc h1; go_simp; first | done | omega | (simp; omega)) ?_
      refine rel_val2 (t := 63) (t' := 65) (v1 := .bool false) (v2 := .bool false) (v := .bool false) ⟨62, by kernel_rfl, by kernel_rfl⟩ (by kernel_rfl) (by kernel_rfl) (by kernel_rfl) (by kernel_rfl) (by intro ρ w hc h1 h2; go_simp) ?_
      refine rel_val2 (t := 62) (t' := 66) (v1 := .bool false) (v2 := .bool false) (v := .bool false) trivial (by kernel_rfl) (by kernel_rfl) (by kernel_rfl) (by kernel_rfl) (by intro ρ w hc h1 h2; go_simp) ?_
      refine rel_move (t := 67) (v := .bool false) rfl trivial (by kernel_rfl) (by kernel_rfl) ?_
      refine rel_move (t := 9) (v := .bool false) rfl ⟨68, by kernel_rfl, by kernel_rfl⟩ (by kernel_rfl) (by kernel_rfl) ?_
      refine rel_move (t := 69) (v := .bool false) rfl ⟨68, by kernel_rfl, by kernel_rfl⟩ (by kernel_rfl) (by kernel_rfl) ?_
      refine rel_skip ⟨70, by kernel_rfl, by kernel_rfl⟩ ?_
      refine rel_skip ⟨70, by kernel_rfl, by kernel_rfl⟩ ?_
      refine rel_skip ⟨70, by kernel_rfl, by kernel_rfl⟩ ?_
      refine rel_skip ⟨70, by kernel_rfl, by kernel_rfl⟩ ?_
      refine rel_val2 (t := 70) (t' := 74) (v1 := .bool false) (v2 := undef) (v := .bool false) ⟨68, by kernel_rfl, by kernel_rfl⟩ (by kernel_rfl) (by kernel_rfl) (by kernel_rfl) (by kernel_rfl) (by intro ρ w hc h1 h2; go_simp) ?_
      refine rel_val2 (t := 68) (t' := 75) (v1 := .bool false) (v2 := .bool false) (v := .bool false) trivial (by kernel_rfl) (by kernel_rfl) (by kernel_rfl) (by kernel_rfl) (by intro ρ w hc h1 h2; go_simp) ?_
      refine rel_move (t := 76) (v := .bool false) rfl trivial (by kernel_rfl) (by kernel_rfl) ?_
      refine rel_move (t := 11) (v := .bool false) rfl ⟨77, by kernel_rfl, by kernel_rfl⟩ (by kernel_rfl) (by kernel_rfl) ?_
      refine rel_move (t := 78) (v := .bool false) rfl ⟨77, by kernel_rfl, by kernel_rfl⟩ (by kernel_rfl) (by kernel_rfl) ?_
      refine rel_skip ⟨79, by kernel_rfl, by kernel_rfl⟩ ?_
      refine rel_skip ⟨79, by kernel_rfl, by kernel_rfl⟩ ?_
      refine rel_skip ⟨79, by kernel_rfl, by kernel_rfl⟩ ?_
      refine rel_val2 (t := 79) (t' := 82) (v1 := .bool false) (v2 := undef) (v := .bool false) ⟨77, by kernel_rfl, by kernel_rfl⟩ (by kernel_rfl) (by kernel_rfl) (by kernel_rfl) (by kernel_rfl) (by intro ρ w hc h1 h2; go_simp) ?_
      refine rel_val2 (t := 77) (t' := 83) (v1 := .bool false) (v2 := .bool false) (v := .bool false) trivial (by kernel_rfl) (by kernel_rfl) (by kernel_rfl) (by kernel_rfl) (by intro ρ w hc h1 h2; go_simp) ?_
      refine rel_move (t := 84) (v := .bool false) rfl trivial (by kernel_rfl) (by kernel_rfl) ?_
      refine rel_move (t := 9) (v := .bool false) rfl ⟨85, by kernel_rfl, by kernel_rfl⟩ (by kernel_rfl) (by kernel_rfl) ?_
      refine rel_val1 (t := 86) (v1 := .bool false) (v := .bool true) ⟨85, by kernel_rfl, by kernel_rfl⟩ (by kernel_rfl) (by kernel_rfl) (by intro ρ w hc h1; go_simp) ?_
      refine rel_move (t := 87) (v := .bool true) rfl ⟨85, by kernel_rfl, by kernel_rfl⟩ (by kernel_rfl) (by kernel_rfl) ?_
      refine rel_move (t := 8) (v := .int .i64 0) rfl ⟨88, by kernel_rfl, by kernel_rfl⟩ (by kernel_rfl) (by kernel_rfl) ?_
      refine rel_val1 (t := 89) (v1 := .int .i64 0) (v := .bool false) ⟨88, by kernel_rfl, by kernel_rfl⟩ (by kernel_rfl) (by kernel_rfl) (by intro ρ w hc h1; go_simp) ?_
      refine rel_val2 (t := 88) (t' := 90) (v1 := .bool true) (v2 := .bool false) (v := .bool false) ⟨85, by kernel_rfl, by kernel_rfl⟩ (by kernel_rfl) (by kernel_rfl) (by kernel_rfl) (by kernel_rfl) (by intro ρ w hc h1 h2; go_simp) ?_
      refine rel_val2 (t := 85) (t' := 91) (v1 := .bool false) (v2 := .bool false) (v := .bool false) trivial (by kernel_rfl) (by kernel_rfl) (by kernel_rfl) (by kernel_rfl) (by intro ρ w hc h1 h2; go_simp) ?_
      refine rel_move (t := 92) (v := .bool false) rfl trivial (by kernel_rfl) (by kernel_rfl) ?_
      refine rel_move (t := 11) (v := .bool false) rfl ⟨93, by kernel_rfl, by kernel_rfl⟩ (by kernel_rfl) (by kernel_rfl) ?_
      refine rel_val1 (t := 94) (v1 := .bool false) (v := .bool true) ⟨93, by kernel_rfl, by kernel_rfl⟩ (by kernel_rfl) (by kernel_rfl) (by intro ρ w hc h1; go_simp) ?_
      refine rel_move (t := 95) (v := .bool true) rfl ⟨93, by kernel_rfl, by kernel_rfl⟩ (by kernel_rfl) (by kernel_rfl) ?_
      refine rel_move (t := 10) (v := .int .i64 0) rfl ⟨96, by kernel_rfl, by kernel_rfl⟩ (by kernel_rfl) (by kernel_rfl) ?_
      refine rel_val1 (t := 97) (v1 := .int .i64 0) (v := .bool false) ⟨96, by kernel_rfl, by kernel_rfl⟩ (by kernel_rfl) (by kernel_rfl) (by intro ρ w hc h1; go_simp) ?_
      refine rel_val2 (t := 96) (t' := 98) (v1 := .bool true) (v2 := .bool false) (v := .bool false) ⟨93, by kernel_rfl, by kernel_rfl⟩ (by kernel_rfl) (by kernel_rfl) (by kernel_rfl) (by kernel_rfl) (by intro ρ w hc h1 h2; go_simp) ?_
      refine rel_val2 (t := 93) (t' := 99) (v1 := .bool false) (v2 := .bool false) (v := .bool false) trivial (by kernel_rfl) (by kernel_rfl) (by kernel_rfl) (by kernel_rfl) (by intro ρ w hc h1 h2; go_simp) ?_
      refine rel_end (env0 := envL [(2, .int .i64 n), (3, .pointer (some ⟨w.heap.size, 0, none⟩)), (4, .pointer (some ⟨w.heap.size + 1, 0, none⟩)), (7, .int .i64 (countR a)), (8, .int .i64 0), (9, .bool false), (10, .int .i64 0), (11, .bool false)]) (n := 118) (fun t w' => Knows.env (l := [(2, .int .i64 n), (3, .pointer (some ⟨w.heap.size, 0, none⟩)), (4, .pointer (some ⟨w.heap.size + 1, 0, none⟩)), (7, .int .i64 (countR a)), (8, .int .i64 0), (9, .bool false), (10, .int .i64 0), (11, .bool false)]) HKc t w') HS3 ?_
      intro a' q' hE' hd' hS' henv'
      exact ⟨rfl, hE', hd'.trans HD3.out, hS', knows_of (henv' 2 (by decide)) (by kernel_rfl), knows_of (henv' 3 (by decide)) (by kernel_rfl), knows_of (henv' 4 (by decide)) (by kernel_rfl), (knows_of (henv' 8 (by decide)) (by kernel_rfl)).trans (show (.int .i64 (leastR a).1 : Value) = .int .i64 0 from (by rw [Hl.out])).symm, knows_of (henv' 100 (by decide)) (by kernel_rfl), trivial⟩
    · have Hl := Lib.hid hl
      have Hs := Lib.hid hs
      clear hl hs
      have Hh := Lib.hid hh
      clear hh
      have HKc : Knows a3 [(2, .int .i64 n), (3, .pointer (some ⟨w.heap.size, 0, none⟩)), (4, .pointer (some ⟨w.heap.size + 1, 0, none⟩)), (7, .int .i64 (countR a)), (8, .int .i64 (leastR a).1), (9, .bool true), (10, .int .i64 (leastR a).1), (11, .bool true)] := ⟨HK3.1, HK3.2.1, HK3.2.2.1, HK3.2.2.2.1, HK3.2.2.2.2.1, HK3.2.2.2.2.2.1.trans (show (.bool (leastR a).2 : Value) = .bool true from (by rw [Hl.out])), HK3.2.2.2.2.2.2.1.trans (show (.int .i64 (singleR a).1 : Value) = .int .i64 (leastR a).1 from (by rw [Hs.out])), HK3.2.2.2.2.2.2.2.1.trans (show (.bool (singleR a).2 : Value) = .bool true from (by rw [Hs.out])), trivial⟩
      refine chain_list (n := 118) (l := [(2, .int .i64 n), (3, .pointer (some ⟨w.heap.size, 0, none⟩)), (4, .pointer (some ⟨w.heap.size + 1, 0, none⟩)), (7, .int .i64 (countR a)), (8, .int .i64 (leastR a).1), (9, .bool true), (10, .int .i64 (leastR a).1), (11, .bool true)]) HKc HS3 rfl (by kernel_rfl) ?_
      refine rel_move (t := 9) (v := .bool true) rfl trivial (by kernel_rfl) (by kernel_rfl) ?_
      refine rel_move (t := 7) (v := .int .i64 (countR a)) rfl trivial (by kernel_rfl) (by kernel_rfl) ?_
      refine rel_val1 (t := 59) (v1 := .int .i64 (countR a)) (v := .bool true) trivial (by kernel_rfl) (by kernel_rfl) (by intro ρ w hc h1; go_simp; first | done | omega | (simp; omega)) ?_
      refine rel_val2 (t := 58) (t' := 60) (v1 := .bool true) (v2 := .bool true) (v := .bool false) trivial (by kernel_rfl) (by kernel_rfl) (by kernel_rfl) (by kernel_rfl) (by intro ρ w hc h1 h2; go_simp) ?_
      refine rel_move (t := 61) (v := .bool false) rfl trivial (by kernel_rfl) (by kernel_rfl) ?_
      refine rel_move (t := 11) (v := .bool true) rfl ⟨62, by kernel_rfl, by kernel_rfl⟩ (by kernel_rfl) (by kernel_rfl) ?_
      refine rel_move (t := 7) (v := .int .i64 (countR a)) rfl ⟨62, by kernel_rfl, by kernel_rfl⟩ (by kernel_rfl) (by kernel_rfl) ?_
      refine rel_val1 (t := 64) (v1 := .int .i64 (countR a)) (v := .bool true) ⟨62, by kernel_rfl, by kernel_rfl⟩ (by kernel_rfl) (by kernel_rfl) (by intro ρ w hc h1; go_simp; first | done | omega | (simp; omega)) ?_
      refine rel_val2 (t := 63) (t' := 65) (v1 := .bool true) (v2 := .bool true) (v := .bool false) ⟨62, by kernel_rfl, by kernel_rfl⟩ (by kernel_rfl) (by kernel_rfl) (by kernel_rfl) (by kernel_rfl) (by intro ρ w hc h1 h2; go_simp) ?_
      refine rel_val2 (t := 62) (t' := 66) (v1 := .bool false) (v2 := .bool false) (v := .bool false) trivial (by kernel_rfl) (by kernel_rfl) (by kernel_rfl) (by kernel_rfl) (by intro ρ w hc h1 h2; go_simp) ?_
      refine rel_move (t := 67) (v := .bool false) rfl trivial (by kernel_rfl) (by kernel_rfl) ?_
      refine rel_move (t := 9) (v := .bool true) rfl ⟨68, by kernel_rfl, by kernel_rfl⟩ (by kernel_rfl) (by kernel_rfl) ?_
      refine rel_move (t := 69) (v := .bool true) rfl ⟨68, by kernel_rfl, by kernel_rfl⟩ (by kernel_rfl) (by kernel_rfl) ?_
      refine rel_load (t := 3) (g := w.heap.size) (D := a) ⟨70, by kernel_rfl, by kernel_rfl⟩ (by kernel_rfl) (by kernel_rfl) (fun w h => ⟨_, _, (HB0.out.ext h).cell0, (HB0.out.ext h).cell1, HN0.out.ext h⟩) (by intro ρ w x y h1 h2 h3; go_simp) ?_
      refine rel_move (t := 8) (v := .int .i64 (leastR a).1) rfl ⟨70, by kernel_rfl, by kernel_rfl⟩ (by kernel_rfl) (by kernel_rfl) ?_
      refine rel_call2 (Is (.bool true)) (Is.stable _) ⟨70, by kernel_rfl, by kernel_rfl⟩ (f := 16) (fun u u' => #[u, u']) (t := 71) (t' := 72) (S := (Nms (a))) (S' := (Is (.int .i64 (leastR a).1))) (by kernel_rfl) (by kernel_rfl) (by kernel_rfl) (by kernel_rfl) (by intro ρ w hc hf; go_simp) (fun w u u' hE hu hu' => by rw [show u' = .int .i64 (leastR a).1 from hu']; exact conB (hasP_any w u a (leastR a).1 hu (Sz.mono (S0.out) (by decide)) HR0.out (least_rng a).1 (least_rng a).2) (congrArg Value.bool (((hasP_eq _ _)).trans Hh.out))) ?_
      refine rel_val1 (t := 73) (v1 := .bool true) (v := .bool false) ⟨70, by kernel_rfl, by kernel_rfl⟩ (by kernel_rfl) (by kernel_rfl) (by intro ρ w hc h1; go_simp) ?_
      refine rel_val2 (t := 70) (t' := 74) (v1 := .bool true) (v2 := .bool false) (v := .bool false) ⟨68, by kernel_rfl, by kernel_rfl⟩ (by kernel_rfl) (by kernel_rfl) (by kernel_rfl) (by kernel_rfl) (by intro ρ w hc h1 h2; go_simp) ?_
      refine rel_val2 (t := 68) (t' := 75) (v1 := .bool false) (v2 := .bool false) (v := .bool false) trivial (by kernel_rfl) (by kernel_rfl) (by kernel_rfl) (by kernel_rfl) (by intro ρ w hc h1 h2; go_simp) ?_
      refine rel_move (t := 76) (v := .bool false) rfl trivial (by kernel_rfl) (by kernel_rfl) ?_
      refine rel_move (t := 11) (v := .bool true) rfl ⟨77, by kernel_rfl, by kernel_rfl⟩ (by kernel_rfl) (by kernel_rfl) ?_
      refine rel_move (t := 78) (v := .bool true) rfl ⟨77, by kernel_rfl, by kernel_rfl⟩ (by kernel_rfl) (by kernel_rfl) ?_
      refine rel_move (t := 10) (v := .int .i64 (leastR a).1) rfl ⟨79, by kernel_rfl, by kernel_rfl⟩ (by kernel_rfl) (by kernel_rfl) ?_
      refine rel_move (t := 8) (v := .int .i64 (leastR a).1) rfl ⟨79, by kernel_rfl, by kernel_rfl⟩ (by kernel_rfl) (by kernel_rfl) ?_
      refine rel_val2 (t := 80) (t' := 81) (v1 := .int .i64 (leastR a).1) (v2 := .int .i64 (leastR a).1) (v := .bool false) ⟨79, by kernel_rfl, by kernel_rfl⟩ (by kernel_rfl) (by kernel_rfl) (by kernel_rfl) (by kernel_rfl) (by intro ρ w hc h1 h2; go_simp) ?_
      refine rel_val2 (t := 79) (t' := 82) (v1 := .bool true) (v2 := .bool false) (v := .bool false) ⟨77, by kernel_rfl, by kernel_rfl⟩ (by kernel_rfl) (by kernel_rfl) (by kernel_rfl) (by kernel_rfl) (by intro ρ w hc h1 h2; go_simp) ?_
      refine rel_val2 (t := 77) (t' := 83) (v1 := .bool false) (v2 := .bool false) (v := .bool false) trivial (by kernel_rfl) (by kernel_rfl) (by kernel_rfl) (by kernel_rfl) (by intro ρ w hc h1 h2; go_simp) ?_
      refine rel_move (t := 84) (v := .bool false) rfl trivial (by kernel_rfl) (by kernel_rfl) ?_
      refine rel_move (t := 9) (v := .bool true) rfl ⟨85, by kernel_rfl, by kernel_rfl⟩ (by kernel_rfl) (by kernel_rfl) ?_
      refine rel_val1 (t := 86) (v1 := .bool true) (v := .bool false) ⟨85, by kernel_rfl, by kernel_rfl⟩ (by kernel_rfl) (by kernel_rfl) (by intro ρ w hc h1; go_simp) ?_
      refine rel_move (t := 87) (v := .bool false) rfl ⟨85, by kernel_rfl, by kernel_rfl⟩ (by kernel_rfl) (by kernel_rfl) ?_
      refine rel_skip ⟨88, by kernel_rfl, by kernel_rfl⟩ ?_
      refine rel_skip ⟨88, by kernel_rfl, by kernel_rfl⟩ ?_
      refine rel_val2 (t := 88) (t' := 90) (v1 := .bool false) (v2 := undef) (v := .bool false) ⟨85, by kernel_rfl, by kernel_rfl⟩ (by kernel_rfl) (by kernel_rfl) (by kernel_rfl) (by kernel_rfl) (by intro ρ w hc h1 h2; go_simp) ?_
      refine rel_val2 (t := 85) (t' := 91) (v1 := .bool false) (v2 := .bool false) (v := .bool false) trivial (by kernel_rfl) (by kernel_rfl) (by kernel_rfl) (by kernel_rfl) (by intro ρ w hc h1 h2; go_simp) ?_
      refine rel_move (t := 92) (v := .bool false) rfl trivial (by kernel_rfl) (by kernel_rfl) ?_
      refine rel_move (t := 11) (v := .bool true) rfl ⟨93, by kernel_rfl, by kernel_rfl⟩ (by kernel_rfl) (by kernel_rfl) ?_
      refine rel_val1 (t := 94) (v1 := .bool true) (v := .bool false) ⟨93, by kernel_rfl, by kernel_rfl⟩ (by kernel_rfl) (by kernel_rfl) (by intro ρ w hc h1; go_simp) ?_
      refine rel_move (t := 95) (v := .bool false) rfl ⟨93, by kernel_rfl, by kernel_rfl⟩ (by kernel_rfl) (by kernel_rfl) ?_
      refine rel_skip ⟨96, by kernel_rfl, by kernel_rfl⟩ ?_
      refine rel_skip ⟨96, by kernel_rfl, by kernel_rfl⟩ ?_
      refine rel_val2 (t := 96) (t' := 98) (v1 := .bool false) (v2 := undef) (v := .bool false) ⟨93, by kernel_rfl, by kernel_rfl⟩ (by kernel_rfl) (by kernel_rfl) (by kernel_rfl) (by kernel_rfl) (by intro ρ w hc h1 h2; go_simp) ?_
      refine rel_val2 (t := 93) (t' := 99) (v1 := .bool false) (v2 := .bool false) (v := .bool false) trivial (by kernel_rfl) (by kernel_rfl) (by kernel_rfl) (by kernel_rfl) (by intro ρ w hc h1 h2; go_simp) ?_
      refine rel_end (env0 := envL [(2, .int .i64 n), (3, .pointer (some ⟨w.heap.size, 0, none⟩)), (4, .pointer (some ⟨w.heap.size + 1, 0, none⟩)), (7, .int .i64 (countR a)), (8, .int .i64 (leastR a).1), (9, .bool true), (10, .int .i64 (leastR a).1), (11, .bool true)]) (n := 118) (fun t w' => Knows.env (l := [(2, .int .i64 n), (3, .pointer (some ⟨w.heap.size, 0, none⟩)), (4, .pointer (some ⟨w.heap.size + 1, 0, none⟩)), (7, .int .i64 (countR a)), (8, .int .i64 (leastR a).1), (9, .bool true), (10, .int .i64 (leastR a).1), (11, .bool true)]) HKc t w') HS3 ?_
      intro a' q' hE' hd' hS' henv'
      exact ⟨rfl, hE', hd'.trans HD3.out, hS', knows_of (henv' 2 (by decide)) (by kernel_rfl), knows_of (henv' 3 (by decide)) (by kernel_rfl), knows_of (henv' 4 (by decide)) (by kernel_rfl), knows_of (henv' 8 (by decide)) (by kernel_rfl), knows_of (henv' 100 (by decide)) (by kernel_rfl), trivial⟩
    · have Hl := Lib.hid hl
      have Hs := Lib.hid hs
      clear hl hs
      have Hh := Lib.hid hh
      clear hh
      have HKc : Knows a3 [(2, .int .i64 n), (3, .pointer (some ⟨w.heap.size, 0, none⟩)), (4, .pointer (some ⟨w.heap.size + 1, 0, none⟩)), (7, .int .i64 (countR a)), (8, .int .i64 (leastR a).1), (9, .bool true), (10, .int .i64 0), (11, .bool false)] := ⟨HK3.1, HK3.2.1, HK3.2.2.1, HK3.2.2.2.1, HK3.2.2.2.2.1, HK3.2.2.2.2.2.1.trans (show (.bool (leastR a).2 : Value) = .bool true from (by rw [Hl.out])), HK3.2.2.2.2.2.2.1.trans (show (.int .i64 (singleR a).1 : Value) = .int .i64 0 from (by rw [Hs.out])), HK3.2.2.2.2.2.2.2.1.trans (show (.bool (singleR a).2 : Value) = .bool false from (by rw [Hs.out])), trivial⟩
      refine chain_list (n := 118) (l := [(2, .int .i64 n), (3, .pointer (some ⟨w.heap.size, 0, none⟩)), (4, .pointer (some ⟨w.heap.size + 1, 0, none⟩)), (7, .int .i64 (countR a)), (8, .int .i64 (leastR a).1), (9, .bool true), (10, .int .i64 0), (11, .bool false)]) HKc HS3 rfl (by kernel_rfl) ?_
      refine rel_move (t := 9) (v := .bool true) rfl trivial (by kernel_rfl) (by kernel_rfl) ?_
      refine rel_move (t := 7) (v := .int .i64 (countR a)) rfl trivial (by kernel_rfl) (by kernel_rfl) ?_
      refine rel_val1 (t := 59) (v1 := .int .i64 (countR a)) (v := .bool true) trivial (by kernel_rfl) (by kernel_rfl) (by intro ρ w hc h1; go_simp; first | done | omega | (simp; omega)) ?_
      refine rel_val2 (t := 58) (t' := 60) (v1 := .bool true) (v2 := .bool true) (v := .bool false) trivial (by kernel_rfl) (by kernel_rfl) (by kernel_rfl) (by kernel_rfl) (by intro ρ w hc h1 h2; go_simp) ?_
      refine rel_move (t := 61) (v := .bool false) rfl trivial (by kernel_rfl) (by kernel_rfl) ?_
      refine rel_move (t := 11) (v := .bool false) rfl ⟨62, by kernel_rfl, by kernel_rfl⟩ (by kernel_rfl) (by kernel_rfl) ?_
      refine rel_move (t := 7) (v := .int .i64 (countR a)) rfl ⟨62, by kernel_rfl, by kernel_rfl⟩ (by kernel_rfl) (by kernel_rfl) ?_
      refine rel_val1 (t := 64) (v1 := .int .i64 (countR a)) (v := .bool false) ⟨62, by kernel_rfl, by kernel_rfl⟩ (by kernel_rfl) (by kernel_rfl) (by intro ρ w hc h1; go_simp; first | done | omega | (simp; omega)) ?_
      refine rel_val2 (t := 63) (t' := 65) (v1 := .bool false) (v2 := .bool false) (v := .bool false) ⟨62, by kernel_rfl, by kernel_rfl⟩ (by kernel_rfl) (by kernel_rfl) (by kernel_rfl) (by kernel_rfl) (by intro ρ w hc h1 h2; go_simp) ?_
      refine rel_val2 (t := 62) (t' := 66) (v1 := .bool false) (v2 := .bool false) (v := .bool false) trivial (by kernel_rfl) (by kernel_rfl) (by kernel_rfl) (by kernel_rfl) (by intro ρ w hc h1 h2; go_simp) ?_
      refine rel_move (t := 67) (v := .bool false) rfl trivial (by kernel_rfl) (by kernel_rfl) ?_
      refine rel_move (t := 9) (v := .bool true) rfl ⟨68, by kernel_rfl, by kernel_rfl⟩ (by kernel_rfl) (by kernel_rfl) ?_
      refine rel_move (t := 69) (v := .bool true) rfl ⟨68, by kernel_rfl, by kernel_rfl⟩ (by kernel_rfl) (by kernel_rfl) ?_
      refine rel_load (t := 3) (g := w.heap.size) (D := a) ⟨70, by kernel_rfl, by kernel_rfl⟩ (by kernel_rfl) (by kernel_rfl) (fun w h => ⟨_, _, (HB0.out.ext h).cell0, (HB0.out.ext h).cell1, HN0.out.ext h⟩) (by intro ρ w x y h1 h2 h3; go_simp) ?_
      refine rel_move (t := 8) (v := .int .i64 (leastR a).1) rfl ⟨70, by kernel_rfl, by kernel_rfl⟩ (by kernel_rfl) (by kernel_rfl) ?_
      refine rel_call2 (Is (.bool true)) (Is.stable _) ⟨70, by kernel_rfl, by kernel_rfl⟩ (f := 16) (fun u u' => #[u, u']) (t := 71) (t' := 72) (S := (Nms (a))) (S' := (Is (.int .i64 (leastR a).1))) (by kernel_rfl) (by kernel_rfl) (by kernel_rfl) (by kernel_rfl) (by intro ρ w hc hf; go_simp) (fun w u u' hE hu hu' => by rw [show u' = .int .i64 (leastR a).1 from hu']; exact conB (hasP_any w u a (leastR a).1 hu (Sz.mono (S0.out) (by decide)) HR0.out (least_rng a).1 (least_rng a).2) (congrArg Value.bool (((hasP_eq _ _)).trans Hh.out))) ?_
      refine rel_val1 (t := 73) (v1 := .bool true) (v := .bool false) ⟨70, by kernel_rfl, by kernel_rfl⟩ (by kernel_rfl) (by kernel_rfl) (by intro ρ w hc h1; go_simp) ?_
      refine rel_val2 (t := 70) (t' := 74) (v1 := .bool true) (v2 := .bool false) (v := .bool false) ⟨68, by kernel_rfl, by kernel_rfl⟩ (by kernel_rfl) (by kernel_rfl) (by kernel_rfl) (by kernel_rfl) (by intro ρ w hc h1 h2; go_simp) ?_
      refine rel_val2 (t := 68) (t' := 75) (v1 := .bool false) (v2 := .bool false) (v := .bool false) trivial (by kernel_rfl) (by kernel_rfl) (by kernel_rfl) (by kernel_rfl) (by intro ρ w hc h1 h2; go_simp) ?_
      refine rel_move (t := 76) (v := .bool false) rfl trivial (by kernel_rfl) (by kernel_rfl) ?_
      refine rel_move (t := 11) (v := .bool false) rfl ⟨77, by kernel_rfl, by kernel_rfl⟩ (by kernel_rfl) (by kernel_rfl) ?_
      refine rel_move (t := 78) (v := .bool false) rfl ⟨77, by kernel_rfl, by kernel_rfl⟩ (by kernel_rfl) (by kernel_rfl) ?_
      refine rel_skip ⟨79, by kernel_rfl, by kernel_rfl⟩ ?_
      refine rel_skip ⟨79, by kernel_rfl, by kernel_rfl⟩ ?_
      refine rel_skip ⟨79, by kernel_rfl, by kernel_rfl⟩ ?_
      refine rel_val2 (t := 79) (t' := 82) (v1 := .bool false) (v2 := undef) (v := .bool false) ⟨77, by kernel_rfl, by kernel_rfl⟩ (by kernel_rfl) (by kernel_rfl) (by kernel_rfl) (by kernel_rfl) (by intro ρ w hc h1 h2; go_simp) ?_
      refine rel_val2 (t := 77) (t' := 83) (v1 := .bool false) (v2 := .bool false) (v := .bool false) trivial (by kernel_rfl) (by kernel_rfl) (by kernel_rfl) (by kernel_rfl) (by intro ρ w hc h1 h2; go_simp) ?_
      refine rel_move (t := 84) (v := .bool false) rfl trivial (by kernel_rfl) (by kernel_rfl) ?_
      refine rel_move (t := 9) (v := .bool true) rfl ⟨85, by kernel_rfl, by kernel_rfl⟩ (by kernel_rfl) (by kernel_rfl) ?_
      refine rel_val1 (t := 86) (v1 := .bool true) (v := .bool false) ⟨85, by kernel_rfl, by kernel_rfl⟩ (by kernel_rfl) (by kernel_rfl) (by intro ρ w hc h1; go_simp) ?_
      refine rel_move (t := 87) (v := .bool false) rfl ⟨85, by kernel_rfl, by kernel_rfl⟩ (by kernel_rfl) (by kernel_rfl) ?_
      refine rel_skip ⟨88, by kernel_rfl, by kernel_rfl⟩ ?_
      refine rel_skip ⟨88, by kernel_rfl, by kernel_rfl⟩ ?_
      refine rel_val2 (t := 88) (t' := 90) (v1 := .bool false) (v2 := undef) (v := .bool false) ⟨85, by kernel_rfl, by kernel_rfl⟩ (by kernel_rfl) (by kernel_rfl) (by kernel_rfl) (by kernel_rfl) (by intro ρ w hc h1 h2; go_simp) ?_
      refine rel_val2 (t := 85) (t' := 91) (v1 := .bool false) (v2 := .bool false) (v := .bool false) trivial (by kernel_rfl) (by kernel_rfl) (by kernel_rfl) (by kernel_rfl) (by intro ρ w hc h1 h2; go_simp) ?_
      refine rel_move (t := 92) (v := .bool false) rfl trivial (by kernel_rfl) (by kernel_rfl) ?_
      refine rel_move (t := 11) (v := .bool false) rfl ⟨93, by kernel_rfl, by kernel_rfl⟩ (by kernel_rfl) (by kernel_rfl) ?_
      refine rel_val1 (t := 94) (v1 := .bool false) (v := .bool true) ⟨93, by kernel_rfl, by kernel_rfl⟩ (by kernel_rfl) (by kernel_rfl) (by intro ρ w hc h1; go_simp) ?_
      refine rel_move (t := 95) (v := .bool true) rfl ⟨93, by kernel_rfl, by kernel_rfl⟩ (by kernel_rfl) (by kernel_rfl) ?_
      refine rel_move (t := 10) (v := .int .i64 0) rfl ⟨96, by kernel_rfl, by kernel_rfl⟩ (by kernel_rfl) (by kernel_rfl) ?_
      refine rel_val1 (t := 97) (v1 := .int .i64 0) (v := .bool false) ⟨96, by kernel_rfl, by kernel_rfl⟩ (by kernel_rfl) (by kernel_rfl) (by intro ρ w hc h1; go_simp) ?_
      refine rel_val2 (t := 96) (t' := 98) (v1 := .bool true) (v2 := .bool false) (v := .bool false) ⟨93, by kernel_rfl, by kernel_rfl⟩ (by kernel_rfl) (by kernel_rfl) (by kernel_rfl) (by kernel_rfl) (by intro ρ w hc h1 h2; go_simp) ?_
      refine rel_val2 (t := 93) (t' := 99) (v1 := .bool false) (v2 := .bool false) (v := .bool false) trivial (by kernel_rfl) (by kernel_rfl) (by kernel_rfl) (by kernel_rfl) (by intro ρ w hc h1 h2; go_simp) ?_
      refine rel_end (env0 := envL [(2, .int .i64 n), (3, .pointer (some ⟨w.heap.size, 0, none⟩)), (4, .pointer (some ⟨w.heap.size + 1, 0, none⟩)), (7, .int .i64 (countR a)), (8, .int .i64 (leastR a).1), (9, .bool true), (10, .int .i64 0), (11, .bool false)]) (n := 118) (fun t w' => Knows.env (l := [(2, .int .i64 n), (3, .pointer (some ⟨w.heap.size, 0, none⟩)), (4, .pointer (some ⟨w.heap.size + 1, 0, none⟩)), (7, .int .i64 (countR a)), (8, .int .i64 (leastR a).1), (9, .bool true), (10, .int .i64 0), (11, .bool false)]) HKc t w') HS3 ?_
      intro a' q' hE' hd' hS' henv'
      exact ⟨rfl, hE', hd'.trans HD3.out, hS', knows_of (henv' 2 (by decide)) (by kernel_rfl), knows_of (henv' 3 (by decide)) (by kernel_rfl), knows_of (henv' 4 (by decide)) (by kernel_rfl), knows_of (henv' 8 (by decide)) (by kernel_rfl), knows_of (henv' 100 (by decide)) (by kernel_rfl), trivial⟩
  rintro a4 q4 ⟨hE4, hd4, HS4, HK4⟩
  have HD4 : Hid (a4.defers = []) := Lib.hid hd4
  clear hd4
  have HB0 := Lib.hid (HB0.out.ext hE4)
  have HN0 := Lib.hid (HN0.out.ext hE4)
  have HB1 := Lib.hid (HB1.out.ext hE4)
  have HN1 := Lib.hid (HN1.out.ext hE4)
  have HEW := Lib.hid (HEW.out.trans hE4)
  clear hE4
  refine nxt_normal ?_
  refine wp_cond_false (show a4.eval (.tmp 100) = .bool false from HK4.2.2.2.2.1) ?_
  refine wp_skip ?_
  refine nxt_normal ?_
  refine seq_nxt ?_
  refine wp_split (fun a' w' => Ext q4 w' ∧ a'.defers = [] ∧ a'.tmps.size = 118 ∧ Knows a' [(6, .bool true)]) ?_ ?_
  · rcases near_ways a n with hx | ⟨hx, he⟩ | ⟨hx, he⟩
    · have Hx := Lib.hid hx
      clear hx
      have HKc : Knows a4 [(2, .int .i64 n), (3, .pointer (some ⟨w.heap.size, 0, none⟩)), (4, .pointer (some ⟨w.heap.size + 1, 0, none⟩)), (8, .int .i64 (leastR a).1), (100, .bool false)] := ⟨HK4.1, HK4.2.1, HK4.2.2.1, HK4.2.2.2.1, HK4.2.2.2.2.1, trivial⟩
      refine chain_list (n := 118) (l := [(2, .int .i64 n), (3, .pointer (some ⟨w.heap.size, 0, none⟩)), (4, .pointer (some ⟨w.heap.size + 1, 0, none⟩)), (8, .int .i64 (leastR a).1), (100, .bool false)]) HKc HS4 rfl (by kernel_rfl) ?_
      refine rel_load (t := 3) (g := w.heap.size) (D := a) trivial (by kernel_rfl) (by kernel_rfl) (fun w h => ⟨_, _, (HB0.out.ext h).cell0, (HB0.out.ext h).cell1, HN0.out.ext h⟩) (by intro ρ w x y h1 h2 h3; go_simp) ?_
      refine rel_move (t := 2) (v := .int .i64 n) rfl trivial (by kernel_rfl) (by kernel_rfl) ?_
      refine rel_call2 (Is (.bool false)) (Is.stable _) trivial (f := 16) (fun u u' => #[u, u']) (t := 101) (t' := 102) (S := (Nms (a))) (S' := (Is (.int .i64 n))) (by kernel_rfl) (by kernel_rfl) (by kernel_rfl) (by kernel_rfl) (by intro ρ w hc hf; go_simp) (fun w u u' hE hu hu' => by rw [show u' = .int .i64 n from hu']; exact conB (hasP_any w u a n hu (Sz.mono (S0.out) (by decide)) HR0.out hn.1 hn.2) (congrArg Value.bool (((hasP_eq _ _)).trans Hx.out))) ?_
      refine rel_val1 (t := 103) (v1 := .bool false) (v := .bool true) trivial (by kernel_rfl) (by kernel_rfl) (by intro ρ w hc h1; go_simp) ?_
      refine rel_move (t := 104) (v := .bool true) rfl trivial (by kernel_rfl) (by kernel_rfl) ?_
      refine rel_skip ⟨105, by kernel_rfl, by kernel_rfl⟩ ?_
      refine rel_skip ⟨105, by kernel_rfl, by kernel_rfl⟩ ?_
      refine rel_skip ⟨105, by kernel_rfl, by kernel_rfl⟩ ?_
      refine rel_val2 (t := 105) (t' := 108) (v1 := .bool true) (v2 := undef) (v := .bool true) trivial (by kernel_rfl) (by kernel_rfl) (by kernel_rfl) (by kernel_rfl) (by intro ρ w hc h1 h2; go_simp) ?_
      refine rel_move (t := 109) (v := .bool true) rfl trivial (by kernel_rfl) (by kernel_rfl) ?_
      refine rel_skip ⟨110, by kernel_rfl, by kernel_rfl⟩ ?_
      refine rel_skip ⟨110, by kernel_rfl, by kernel_rfl⟩ ?_
      refine rel_skip ⟨110, by kernel_rfl, by kernel_rfl⟩ ?_
      refine rel_val2 (t := 110) (t' := 113) (v1 := .bool true) (v2 := undef) (v := .bool true) trivial (by kernel_rfl) (by kernel_rfl) (by kernel_rfl) (by kernel_rfl) (by intro ρ w hc h1 h2; go_simp) ?_
      refine rel_move (t := 114) (v := .bool true) rfl trivial (by kernel_rfl) (by kernel_rfl) ?_
      refine rel_call0 (Is (.bool true)) (Is.stable _) ⟨115, by kernel_rfl, by kernel_rfl⟩ (f := 15) #[] (by intro ρ w hc hf; go_simp) (fun w hE => conB (alive_any w) rfl) ?_
      refine rel_val2 (t := 115) (t' := 116) (v1 := .bool true) (v2 := .bool true) (v := .bool true) trivial (by kernel_rfl) (by kernel_rfl) (by kernel_rfl) (by kernel_rfl) (by intro ρ w hc h1 h2; go_simp) ?_
      refine rel_assign (t := 117) (v := .bool true) rfl trivial (by kernel_rfl) (by kernel_rfl) ?_
      refine rel_end (env0 := envL [(2, .int .i64 n), (3, .pointer (some ⟨w.heap.size, 0, none⟩)), (4, .pointer (some ⟨w.heap.size + 1, 0, none⟩)), (8, .int .i64 (leastR a).1), (100, .bool false)]) (n := 118) (fun t w' => Knows.env (l := [(2, .int .i64 n), (3, .pointer (some ⟨w.heap.size, 0, none⟩)), (4, .pointer (some ⟨w.heap.size + 1, 0, none⟩)), (8, .int .i64 (leastR a).1), (100, .bool false)]) HKc t w') HS4 ?_
      intro a' q' hE' hd' hS' henv'
      exact ⟨rfl, hE', hd'.trans HD4.out, hS', knows_of (henv' 6 (by decide)) (by kernel_rfl), trivial⟩
    · have k1 : n ≤ (leastR a).1 := by omega
      have k2 : (leastR a).1 ≤ n := by omega
      clear he
      have Hx := Lib.hid hx
      clear hx
      have HKc : Knows a4 [(2, .int .i64 n), (3, .pointer (some ⟨w.heap.size, 0, none⟩)), (4, .pointer (some ⟨w.heap.size + 1, 0, none⟩)), (8, .int .i64 (leastR a).1), (100, .bool false)] := ⟨HK4.1, HK4.2.1, HK4.2.2.1, HK4.2.2.2.1, HK4.2.2.2.2.1, trivial⟩
      refine chain_list (n := 118) (l := [(2, .int .i64 n), (3, .pointer (some ⟨w.heap.size, 0, none⟩)), (4, .pointer (some ⟨w.heap.size + 1, 0, none⟩)), (8, .int .i64 (leastR a).1), (100, .bool false)]) HKc HS4 rfl (by kernel_rfl) ?_
      refine rel_load (t := 3) (g := w.heap.size) (D := a) trivial (by kernel_rfl) (by kernel_rfl) (fun w h => ⟨_, _, (HB0.out.ext h).cell0, (HB0.out.ext h).cell1, HN0.out.ext h⟩) (by intro ρ w x y h1 h2 h3; go_simp) ?_
      refine rel_move (t := 2) (v := .int .i64 n) rfl trivial (by kernel_rfl) (by kernel_rfl) ?_
      refine rel_call2 (Is (.bool true)) (Is.stable _) trivial (f := 16) (fun u u' => #[u, u']) (t := 101) (t' := 102) (S := (Nms (a))) (S' := (Is (.int .i64 n))) (by kernel_rfl) (by kernel_rfl) (by kernel_rfl) (by kernel_rfl) (by intro ρ w hc hf; go_simp) (fun w u u' hE hu hu' => by rw [show u' = .int .i64 n from hu']; exact conB (hasP_any w u a n hu (Sz.mono (S0.out) (by decide)) HR0.out hn.1 hn.2) (congrArg Value.bool (((hasP_eq _ _)).trans Hx.out))) ?_
      refine rel_val1 (t := 103) (v1 := .bool true) (v := .bool false) trivial (by kernel_rfl) (by kernel_rfl) (by intro ρ w hc h1; go_simp) ?_
      refine rel_move (t := 104) (v := .bool false) rfl trivial (by kernel_rfl) (by kernel_rfl) ?_
      refine rel_move (t := 2) (v := .int .i64 n) rfl ⟨105, by kernel_rfl, by kernel_rfl⟩ (by kernel_rfl) (by kernel_rfl) ?_
      refine rel_move (t := 8) (v := .int .i64 (leastR a).1) rfl ⟨105, by kernel_rfl, by kernel_rfl⟩ (by kernel_rfl) (by kernel_rfl) ?_
      refine rel_val2 (t := 106) (t' := 107) (v1 := .int .i64 n) (v2 := .int .i64 (leastR a).1) (v := .bool true) ⟨105, by kernel_rfl, by kernel_rfl⟩ (by kernel_rfl) (by kernel_rfl) (by kernel_rfl) (by kernel_rfl) (by intro ρ w hc h1 h2; go_simp; first | done | omega | (simp; omega)) ?_
      refine rel_val2 (t := 105) (t' := 108) (v1 := .bool false) (v2 := .bool true) (v := .bool true) trivial (by kernel_rfl) (by kernel_rfl) (by kernel_rfl) (by kernel_rfl) (by intro ρ w hc h1 h2; go_simp) ?_
      refine rel_move (t := 109) (v := .bool true) rfl trivial (by kernel_rfl) (by kernel_rfl) ?_
      refine rel_skip ⟨110, by kernel_rfl, by kernel_rfl⟩ ?_
      refine rel_skip ⟨110, by kernel_rfl, by kernel_rfl⟩ ?_
      refine rel_skip ⟨110, by kernel_rfl, by kernel_rfl⟩ ?_
      refine rel_val2 (t := 110) (t' := 113) (v1 := .bool true) (v2 := undef) (v := .bool true) trivial (by kernel_rfl) (by kernel_rfl) (by kernel_rfl) (by kernel_rfl) (by intro ρ w hc h1 h2; go_simp) ?_
      refine rel_move (t := 114) (v := .bool true) rfl trivial (by kernel_rfl) (by kernel_rfl) ?_
      refine rel_call0 (Is (.bool true)) (Is.stable _) ⟨115, by kernel_rfl, by kernel_rfl⟩ (f := 15) #[] (by intro ρ w hc hf; go_simp) (fun w hE => conB (alive_any w) rfl) ?_
      refine rel_val2 (t := 115) (t' := 116) (v1 := .bool true) (v2 := .bool true) (v := .bool true) trivial (by kernel_rfl) (by kernel_rfl) (by kernel_rfl) (by kernel_rfl) (by intro ρ w hc h1 h2; go_simp) ?_
      refine rel_assign (t := 117) (v := .bool true) rfl trivial (by kernel_rfl) (by kernel_rfl) ?_
      refine rel_end (env0 := envL [(2, .int .i64 n), (3, .pointer (some ⟨w.heap.size, 0, none⟩)), (4, .pointer (some ⟨w.heap.size + 1, 0, none⟩)), (8, .int .i64 (leastR a).1), (100, .bool false)]) (n := 118) (fun t w' => Knows.env (l := [(2, .int .i64 n), (3, .pointer (some ⟨w.heap.size, 0, none⟩)), (4, .pointer (some ⟨w.heap.size + 1, 0, none⟩)), (8, .int .i64 (leastR a).1), (100, .bool false)]) HKc t w') HS4 ?_
      intro a' q' hE' hd' hS' henv'
      exact ⟨rfl, hE', hd'.trans HD4.out, hS', knows_of (henv' 6 (by decide)) (by kernel_rfl), trivial⟩
    · have k1 := has_sml a n hx
      have k2 := least_sml a
      have Hn := Lib.hid (least_near a n hx he)
      have Hx := Lib.hid hx
      clear hx
      have HKc : Knows a4 [(2, .int .i64 n), (3, .pointer (some ⟨w.heap.size, 0, none⟩)), (4, .pointer (some ⟨w.heap.size + 1, 0, none⟩)), (8, .int .i64 (leastR a).1), (100, .bool false)] := ⟨HK4.1, HK4.2.1, HK4.2.2.1, HK4.2.2.2.1, HK4.2.2.2.2.1, trivial⟩
      refine chain_list (n := 118) (l := [(2, .int .i64 n), (3, .pointer (some ⟨w.heap.size, 0, none⟩)), (4, .pointer (some ⟨w.heap.size + 1, 0, none⟩)), (8, .int .i64 (leastR a).1), (100, .bool false)]) HKc HS4 rfl (by kernel_rfl) ?_
      refine rel_load (t := 3) (g := w.heap.size) (D := a) trivial (by kernel_rfl) (by kernel_rfl) (fun w h => ⟨_, _, (HB0.out.ext h).cell0, (HB0.out.ext h).cell1, HN0.out.ext h⟩) (by intro ρ w x y h1 h2 h3; go_simp) ?_
      refine rel_move (t := 2) (v := .int .i64 n) rfl trivial (by kernel_rfl) (by kernel_rfl) ?_
      refine rel_call2 (Is (.bool true)) (Is.stable _) trivial (f := 16) (fun u u' => #[u, u']) (t := 101) (t' := 102) (S := (Nms (a))) (S' := (Is (.int .i64 n))) (by kernel_rfl) (by kernel_rfl) (by kernel_rfl) (by kernel_rfl) (by intro ρ w hc hf; go_simp) (fun w u u' hE hu hu' => by rw [show u' = .int .i64 n from hu']; exact conB (hasP_any w u a n hu (Sz.mono (S0.out) (by decide)) HR0.out hn.1 hn.2) (congrArg Value.bool (((hasP_eq _ _)).trans Hx.out))) ?_
      refine rel_val1 (t := 103) (v1 := .bool true) (v := .bool false) trivial (by kernel_rfl) (by kernel_rfl) (by intro ρ w hc h1; go_simp) ?_
      refine rel_move (t := 104) (v := .bool false) rfl trivial (by kernel_rfl) (by kernel_rfl) ?_
      refine rel_move (t := 2) (v := .int .i64 n) rfl ⟨105, by kernel_rfl, by kernel_rfl⟩ (by kernel_rfl) (by kernel_rfl) ?_
      refine rel_move (t := 8) (v := .int .i64 (leastR a).1) rfl ⟨105, by kernel_rfl, by kernel_rfl⟩ (by kernel_rfl) (by kernel_rfl) ?_
      refine rel_val2 (t := 106) (t' := 107) (v1 := .int .i64 n) (v2 := .int .i64 (leastR a).1) (v := .bool false) ⟨105, by kernel_rfl, by kernel_rfl⟩ (by kernel_rfl) (by kernel_rfl) (by kernel_rfl) (by kernel_rfl) (by intro ρ w hc h1 h2; go_simp; first | done | omega | (simp; omega)) ?_
      refine rel_val2 (t := 105) (t' := 108) (v1 := .bool false) (v2 := .bool false) (v := .bool false) trivial (by kernel_rfl) (by kernel_rfl) (by kernel_rfl) (by kernel_rfl) (by intro ρ w hc h1 h2; go_simp) ?_
      refine rel_move (t := 109) (v := .bool false) rfl trivial (by kernel_rfl) (by kernel_rfl) ?_
      refine rel_move (t := 8) (v := .int .i64 (leastR a).1) rfl ⟨110, by kernel_rfl, by kernel_rfl⟩ (by kernel_rfl) (by kernel_rfl) ?_
      refine rel_move (t := 2) (v := .int .i64 n) rfl ⟨110, by kernel_rfl, by kernel_rfl⟩ (by kernel_rfl) (by kernel_rfl) ?_
      refine rel_call2 (Is (.bool true)) (Is.stable _) ⟨110, by kernel_rfl, by kernel_rfl⟩ (f := 32) (fun u u' => #[u, u']) (t := 111) (t' := 112) (S := (Is (.int .i64 (leastR a).1))) (S' := (Is (.int .i64 n))) (by kernel_rfl) (by kernel_rfl) (by kernel_rfl) (by kernel_rfl) (by intro ρ w hc hf; go_simp) (fun w u u' hE hu hu' => by rw [show u = .int .i64 (leastR a).1 from hu, show u' = .int .i64 n from hu']; exact conW (nearerR_any _ _ w (by omega) (by omega) (by omega) (by omega)) (congrArg Value.bool Hn.out)) ?_
      refine rel_val2 (t := 110) (t' := 113) (v1 := .bool false) (v2 := .bool true) (v := .bool true) trivial (by kernel_rfl) (by kernel_rfl) (by kernel_rfl) (by kernel_rfl) (by intro ρ w hc h1 h2; go_simp) ?_
      refine rel_move (t := 114) (v := .bool true) rfl trivial (by kernel_rfl) (by kernel_rfl) ?_
      refine rel_call0 (Is (.bool true)) (Is.stable _) ⟨115, by kernel_rfl, by kernel_rfl⟩ (f := 15) #[] (by intro ρ w hc hf; go_simp) (fun w hE => conB (alive_any w) rfl) ?_
      refine rel_val2 (t := 115) (t' := 116) (v1 := .bool true) (v2 := .bool true) (v := .bool true) trivial (by kernel_rfl) (by kernel_rfl) (by kernel_rfl) (by kernel_rfl) (by intro ρ w hc h1 h2; go_simp) ?_
      refine rel_assign (t := 117) (v := .bool true) rfl trivial (by kernel_rfl) (by kernel_rfl) ?_
      refine rel_end (env0 := envL [(2, .int .i64 n), (3, .pointer (some ⟨w.heap.size, 0, none⟩)), (4, .pointer (some ⟨w.heap.size + 1, 0, none⟩)), (8, .int .i64 (leastR a).1), (100, .bool false)]) (n := 118) (fun t w' => Knows.env (l := [(2, .int .i64 n), (3, .pointer (some ⟨w.heap.size, 0, none⟩)), (4, .pointer (some ⟨w.heap.size + 1, 0, none⟩)), (8, .int .i64 (leastR a).1), (100, .bool false)]) HKc t w') HS4 ?_
      intro a' q' hE' hd' hS' henv'
      exact ⟨rfl, hE', hd'.trans HD4.out, hS', knows_of (henv' 6 (by decide)) (by kernel_rfl), trivial⟩
  rintro a5 q5 ⟨hE5, hd5, HS5, HK5⟩
  have HD5 : Hid (a5.defers = []) := Lib.hid hd5
  clear hd5
  have HB0 := Lib.hid (HB0.out.ext hE5)
  have HN0 := Lib.hid (HN0.out.ext hE5)
  have HB1 := Lib.hid (HB1.out.ext hE5)
  have HN1 := Lib.hid (HN1.out.ext hE5)
  have HEW := Lib.hid (HEW.out.trans hE5)
  clear hE5
  refine nxt_normal ?_
  refine wp_ret ?_
  refine bodyPost_ret (v := .bool true) ?_ HD5.out ⟨rfl, HEW.out⟩
  rw [results_tmp (t := 6) rfl, HK5.1]
end Go.Proofs.Ytaianhhmmacblaa
