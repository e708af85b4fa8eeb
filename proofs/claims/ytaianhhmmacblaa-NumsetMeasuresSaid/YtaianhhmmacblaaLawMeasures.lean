import Derived.Test.YtaianhhmmacblaaAlive
import Derived.Test.YtaianhhmmacblaaOpen
import Derived.Test.YtaianhhmmacblaaRelKV
import Derived.Test.YtaianhhmmacblaaLaws1
import Derived.Test.YtaianhhmmacblaaCmpR
/-
  The law NumsetMeasures.
-/
namespace Go.Proofs.Ytaianhhmmacblaa
open Go Go.RowKit
attribute [local irreducible] relSeq relSeqV endE upd

set_option maxRecDepth 100000 in
set_option maxHeartbeats 4000000 in
theorem lawMeasures (w : World) (v0 : Value) (a : Nm) (h0 : NmAt w v0 a) (r0 : InR a.fracs) (v1 : Value) (b : Nm) (h1 : NmAt w v1 b) (r1 : InR b.fracs)  :
    Calls Try.prog 4 #[v0, v1] w fun e w' => e = .returned (.bool true) ∧ Ext w w' := by
  have g0 := h0
  obtain ⟨A0, c0, B0, e0, rfl, x0, y0⟩ := g0
  have g1 := h1
  obtain ⟨A1, c1, B1, e1, rfl, x1, y1⟩ := g1
  have b0 : BlkN ((w.alloc (.cells #[.slice A0 a.ints.length c0, .slice B0 a.fracs.length e0] 24)).alloc (.cells #[.slice A1 b.ints.length c1, .slice B1 b.fracs.length e1] 24)) w.heap.size (.slice A0 a.ints.length c0) (.slice B0 a.fracs.length e0) := by simpa using (BlkN.new w (.slice A0 a.ints.length c0) (.slice B0 a.fracs.length e0)).alloc _
  have b1 : BlkN ((w.alloc (.cells #[.slice A0 a.ints.length c0, .slice B0 a.fracs.length e0] 24)).alloc (.cells #[.slice A1 b.ints.length c1, .slice B1 b.fracs.length e1] 24)) (w.heap.size + 1) (.slice A1 b.ints.length c1) (.slice B1 b.fracs.length e1) := by simpa using BlkN.new (w.alloc (.cells #[.slice A0 a.ints.length c0, .slice B0 a.fracs.length e0] 24)) (.slice A1 b.ints.length c1) (.slice B1 b.fracs.length e1)
  have hEW : Ext w ((w.alloc (.cells #[.slice A0 a.ints.length c0, .slice B0 a.fracs.length e0] 24)).alloc (.cells #[.slice A1 b.ints.length c1, .slice B1 b.fracs.length e1] 24)) := ((Ext.refl w).alloc _).alloc _
  have hsz : ((w.alloc (.cells #[.slice A0 a.ints.length c0, .slice B0 a.fracs.length e0] 24)).alloc (.cells #[.slice A1 b.ints.length c1, .slice B1 b.fracs.length e1] 24)).heap.size = w.heap.size + 2 := by simp
  go_enter Try.func4, Try.ntmps4
  generalize hW0 : ((w.alloc (.cells #[.slice A0 a.ints.length c0, .slice B0 a.fracs.length e0] 24)).alloc (.cells #[.slice A1 b.ints.length c1, .slice B1 b.fracs.length e1] 24)) = W at *
  have hh := heap_alloc_new W (.cells #[.slice A0 a.ints.length c0, .slice B0 a.fracs.length e0, .slice A1 b.ints.length c1, .slice B1 b.fracs.length e1] 24)
  have hE1 := (Ext.refl W).alloc (.cells #[.slice A0 a.ints.length c0, .slice B0 a.fracs.length e0, .slice A1 b.ints.length c1, .slice B1 b.fracs.length e1] 24)
  have hz1 : (W.alloc (.cells #[.slice A0 a.ints.length c0, .slice B0 a.fracs.length e0, .slice A1 b.ints.length c1, .slice B1 b.fracs.length e1] 24)).heap.size = W.heap.size + 1 := by simp
  have H1 := Lib.hid hh
  have E1 := Lib.hid hE1
  have Z1 := Lib.hid hz1
  have EW := Lib.hid hEW
  have SZ := Lib.hid hsz
  have f0a := b0.cell0
  have f0b := b0.cell1
  have HB0 := Lib.hid b0
  have HN0 := Lib.hid (h0.ext hEW)
  have HR0 := Lib.hid r0
  have f1a := b1.cell0
  have f1b := b1.cell1
  have HB1 := Lib.hid b1
  have HN1 := Lib.hid (h1.ext hEW)
  have HR1 := Lib.hid r1
  clear hh hE1 hz1 hEW hsz b0 h0 r0 x0 y0 b1 h1 r1 x1 y1
  have hfew : Calls Try.prog 19 #[.slice (some ⟨W.heap.size, 0, none⟩) 2 2] (W.alloc (.cells #[.slice A0 a.ints.length c0, .slice B0 a.fracs.length e0, .slice A1 b.ints.length c1, .slice B1 b.fracs.length e1] 24)) fun e w' => e = .returned (.bool ([(a.ints.length, a.fracs.length), (b.ints.length, b.fracs.length)].all fewB)) ∧ Ext (W.alloc (.cells #[.slice A0 a.ints.length c0, .slice B0 a.fracs.length e0, .slice A1 b.ints.length c1, .slice B1 b.fracs.length e1] 24)) w' := by
    refine few_any (W.alloc (.cells #[.slice A0 a.ints.length c0, .slice B0 a.fracs.length e0, .slice A1 b.ints.length c1, .slice B1 b.fracs.length e1] 24)) W.heap.size [(a.ints.length, a.fracs.length), (b.ints.length, b.fracs.length)] 2 (by rw [Z1.out]; omega) ?_ (by simp)
    intro k x hk
    have hh := H1.out
    unfold World.cell?
    match k, hk with
    | 0, hk => injection hk with hk; subst hk; rw [hh]; exact ⟨_, _, _, _, rfl, rfl⟩
    | 1, hk => injection hk with hk; subst hk; rw [hh]; exact ⟨_, _, _, _, rfl, rfl⟩
  have HFEW := Lib.hid hfew
  clear hfew H1
  cases hf : [(a.ints.length, a.fracs.length), (b.ints.length, b.fracs.length)].all fewB
  · rw [hf] at HFEW
    clear hf HB0 HN0 HR0 HB1 HN1 HR1
    go_wp2_with fail
    refine HFEW.out.mono ?_
    rintro e w1 ⟨rfl, hE1⟩
    have HE1 := Lib.hid (EW.out.trans (E1.out.trans hE1))
    clear hE1 HFEW
    go_wp2_with fail
    refine (alive_any _).mono ?_
    rintro e w2 ⟨rfl, hE2⟩
    have HE2 := Lib.hid (HE1.out.trans hE2)
    clear hE2
    go_wp2
    refine bodyPost_ret (results_tmp rfl _ _ _) rfl ⟨rfl, HE2.out⟩
  rw [hf] at HFEW
  have S0 : Hid (Sz 8 a) := Lib.hid (by simp [fewB] at hf; exact ⟨by omega, by omega⟩)
  have S1 : Hid (Sz 8 b) := Lib.hid (by simp [fewB] at hf; exact ⟨by omega, by omega⟩)
  clear hf
  go_wp2_with fail
  refine HFEW.out.mono ?_
  rintro e w1 ⟨rfl, hE1⟩
  have HB0 := Lib.hid (HB0.out.ext (E1.out.trans hE1))
  have HN0 := Lib.hid (HN0.out.ext (E1.out.trans hE1))
  have HB1 := Lib.hid (HB1.out.ext (E1.out.trans hE1))
  have HN1 := Lib.hid (HN1.out.ext (E1.out.trans hE1))
  have HEW := Lib.hid (EW.out.trans (E1.out.trans hE1))
  clear hE1 HFEW hW0 E1 Z1 EW f0a f0b f1a f1b
  have f0a := HB0.out.cell0
  have f0b := HB0.out.cell1
  have f1a := HB1.out.cell0
  have f1b := HB1.out.cell1
  go_wp2_with fail
  refine (leastP_any _ _ a HN0.out (S0.out.mono (by omega)) HR0.out).mono ?_
  rintro e w2 ⟨rfl, hE2⟩
  rw [least_eq]
  have HB0 := Lib.hid (HB0.out.ext hE2)
  have HN0 := Lib.hid (HN0.out.ext hE2)
  have HB1 := Lib.hid (HB1.out.ext hE2)
  have HN1 := Lib.hid (HN1.out.ext hE2)
  have HEW := Lib.hid (HEW.out.trans hE2)
  clear hE2 f0a f0b f1a f1b
  have f0a := HB0.out.cell0
  have f0b := HB0.out.cell1
  have f1a := HB1.out.cell0
  have f1b := HB1.out.cell1
  go_wp2_with fail
  refine (leastR_any _ _ a HN0.out (S0.out.mono (by omega))).mono ?_
  rintro e w3 ⟨rfl, hE3⟩
  have HB0 := Lib.hid (HB0.out.ext hE3)
  have HN0 := Lib.hid (HN0.out.ext hE3)
  have HB1 := Lib.hid (HB1.out.ext hE3)
  have HN1 := Lib.hid (HN1.out.ext hE3)
  have HEW := Lib.hid (HEW.out.trans hE3)
  clear hE3 f0a f0b f1a f1b
  have f0a := HB0.out.cell0
  have f0b := HB0.out.cell1
  have f1a := HB1.out.cell0
  have f1b := HB1.out.cell1
  go_wp2_with fail
  refine (singleP_any _ _ a HN0.out (S0.out.mono (by omega)) HR0.out).mono ?_
  rintro e w4 ⟨rfl, hE4⟩
  rw [single_eq]
  have HB0 := Lib.hid (HB0.out.ext hE4)
  have HN0 := Lib.hid (HN0.out.ext hE4)
  have HB1 := Lib.hid (HB1.out.ext hE4)
  have HN1 := Lib.hid (HN1.out.ext hE4)
  have HEW := Lib.hid (HEW.out.trans hE4)
  clear hE4 f0a f0b f1a f1b
  have f0a := HB0.out.cell0
  have f0b := HB0.out.cell1
  have f1a := HB1.out.cell0
  have f1b := HB1.out.cell1
  go_wp2_with fail
  refine (singleR_any _ _ a HN0.out (S0.out.mono (by omega))).mono ?_
  rintro e w5 ⟨rfl, hE5⟩
  have HB0 := Lib.hid (HB0.out.ext hE5)
  have HN0 := Lib.hid (HN0.out.ext hE5)
  have HB1 := Lib.hid (HB1.out.ext hE5)
  have HN1 := Lib.hid (HN1.out.ext hE5)
  have HEW := Lib.hid (HEW.out.trans hE5)
  clear hE5 f0a f0b f1a f1b
  have f0a := HB0.out.cell0
  have f0b := HB0.out.cell1
  have f1a := HB1.out.cell0
  have f1b := HB1.out.cell1
  go_wp2_with fail
  clear f0a f0b f1a f1b
  refine wp_region_all (m := 38) (by kernel_rfl) rfl rfl rfl (by kernel_rfl) (by kernel_rfl) ?_
  refine rel_move (t := 5) (v := .int .i64 (leastR a).1) rfl trivial (by kernel_rfl) (by kernel_rfl) ?_
  refine rel_move (t := 7) (v := .int .i64 (leastR a).1) rfl trivial (by kernel_rfl) (by kernel_rfl) ?_
  refine rel_val2 (t := 39) (t' := 40) (v1 := .int .i64 (leastR a).1) (v2 := .int .i64 (leastR a).1) (v := .bool true) trivial (by kernel_rfl) (by kernel_rfl) (by kernel_rfl) (by kernel_rfl) (by intro ρ w hc h1 h2; go_simp) ?_
  refine rel_move (t := 41) (v := .bool true) rfl trivial (by kernel_rfl) (by kernel_rfl) ?_
  refine rel_move (t := 6) (v := .bool (leastR a).2) rfl ⟨42, by kernel_rfl, by kernel_rfl⟩ (by kernel_rfl) (by kernel_rfl) ?_
  refine rel_move (t := 8) (v := .bool (leastR a).2) rfl ⟨42, by kernel_rfl, by kernel_rfl⟩ (by kernel_rfl) (by kernel_rfl) ?_
  refine rel_val2 (t := 43) (t' := 44) (v1 := .bool (leastR a).2) (v2 := .bool (leastR a).2) (v := .bool true) ⟨42, by kernel_rfl, by kernel_rfl⟩ (by kernel_rfl) (by kernel_rfl) (by kernel_rfl) (by kernel_rfl) (by intro ρ w hc h1 h2; go_simp) ?_
  refine rel_val2 (t := 42) (t' := 45) (v1 := .bool true) (v2 := .bool true) (v := .bool true) trivial (by kernel_rfl) (by kernel_rfl) (by kernel_rfl) (by kernel_rfl) (by intro ρ w hc h1 h2; go_simp) ?_
  refine rel_move (t := 46) (v := .bool true) rfl trivial (by kernel_rfl) (by kernel_rfl) ?_
  refine rel_move (t := 9) (v := .int .i64 (singleR a).1) rfl ⟨47, by kernel_rfl, by kernel_rfl⟩ (by kernel_rfl) (by kernel_rfl) ?_
  refine rel_move (t := 11) (v := .int .i64 (singleR a).1) rfl ⟨47, by kernel_rfl, by kernel_rfl⟩ (by kernel_rfl) (by kernel_rfl) ?_
  refine rel_val2 (t := 48) (t' := 49) (v1 := .int .i64 (singleR a).1) (v2 := .int .i64 (singleR a).1) (v := .bool true) ⟨47, by kernel_rfl, by kernel_rfl⟩ (by kernel_rfl) (by kernel_rfl) (by kernel_rfl) (by kernel_rfl) (by intro ρ w hc h1 h2; go_simp) ?_
  refine rel_val2 (t := 47) (t' := 50) (v1 := .bool true) (v2 := .bool true) (v := .bool true) trivial (by kernel_rfl) (by kernel_rfl) (by kernel_rfl) (by kernel_rfl) (by intro ρ w hc h1 h2; go_simp) ?_
  refine rel_move (t := 51) (v := .bool true) rfl trivial (by kernel_rfl) (by kernel_rfl) ?_
  refine rel_move (t := 10) (v := .bool (singleR a).2) rfl ⟨52, by kernel_rfl, by kernel_rfl⟩ (by kernel_rfl) (by kernel_rfl) ?_
  refine rel_move (t := 12) (v := .bool (singleR a).2) rfl ⟨52, by kernel_rfl, by kernel_rfl⟩ (by kernel_rfl) (by kernel_rfl) ?_
  refine rel_val2 (t := 53) (t' := 54) (v1 := .bool (singleR a).2) (v2 := .bool (singleR a).2) (v := .bool true) ⟨52, by kernel_rfl, by kernel_rfl⟩ (by kernel_rfl) (by kernel_rfl) (by kernel_rfl) (by kernel_rfl) (by intro ρ w hc h1 h2; go_simp) ?_
  refine rel_val2 (t := 52) (t' := 55) (v1 := .bool true) (v2 := .bool true) (v := .bool true) trivial (by kernel_rfl) (by kernel_rfl) (by kernel_rfl) (by kernel_rfl) (by intro ρ w hc h1 h2; go_simp) ?_
  refine rel_move (t := 56) (v := .bool true) rfl trivial (by kernel_rfl) (by kernel_rfl) ?_
  refine rel_load (t := 2) (g := w.heap.size) (D := a) ⟨57, by kernel_rfl, by kernel_rfl⟩ (by kernel_rfl) (by kernel_rfl) (fun w h => ⟨_, _, (HB0.out.ext h).cell0, (HB0.out.ext h).cell1, HN0.out.ext h⟩) (by intro ρ w x y h1 h2 h3; go_simp) ?_
  refine rel_call1 (Is (.int .i64 (countR a))) (Is.stable _) ⟨57, by kernel_rfl, by kernel_rfl⟩ (f := 24) (fun u => #[u]) (t := 58) (S := (Nms (a))) (by kernel_rfl) (by kernel_rfl) (by intro ρ w hc hf; go_simp) (fun w u hE hu => conB (countP_any w u a hu (Sz.mono (S0.out) (by decide)) HR0.out) (congrArg (Value.int .i64) (count_eq _))) ?_
  refine rel_load (t := 2) (g := w.heap.size) (D := a) ⟨57, by kernel_rfl, by kernel_rfl⟩ (by kernel_rfl) (by kernel_rfl) (fun w h => ⟨_, _, (HB0.out.ext h).cell0, (HB0.out.ext h).cell1, HN0.out.ext h⟩) (by intro ρ w x y h1 h2 h3; go_simp) ?_
  refine rel_call1 (Is (.int .i64 (countR a))) (Is.stable _) ⟨57, by kernel_rfl, by kernel_rfl⟩ (f := 25) (fun u => #[u]) (t := 60) (S := (Nms (a))) (by kernel_rfl) (by kernel_rfl) (by intro ρ w hc hf; go_simp) (fun w u hE hu => conB (countR_any w u a hu (Sz.mono (S0.out) (by decide))) rfl) ?_
  refine rel_val2 (t := 59) (t' := 61) (v1 := .int .i64 (countR a)) (v2 := .int .i64 (countR a)) (v := .bool true) ⟨57, by kernel_rfl, by kernel_rfl⟩ (by kernel_rfl) (by kernel_rfl) (by kernel_rfl) (by kernel_rfl) (by intro ρ w hc h1 h2; go_simp) ?_
  refine rel_val2 (t := 57) (t' := 62) (v1 := .bool true) (v2 := .bool true) (v := .bool true) trivial (by kernel_rfl) (by kernel_rfl) (by kernel_rfl) (by kernel_rfl) (by intro ρ w hc h1 h2; go_simp) ?_
  refine rel_move (t := 63) (v := .bool true) rfl trivial (by kernel_rfl) (by kernel_rfl) ?_
  refine rel_load (t := 2) (g := w.heap.size) (D := a) ⟨64, by kernel_rfl, by kernel_rfl⟩ (by kernel_rfl) (by kernel_rfl) (fun w h => ⟨_, _, (HB0.out.ext h).cell0, (HB0.out.ext h).cell1, HN0.out.ext h⟩) (by intro ρ w x y h1 h2 h3; go_simp) ?_
  refine rel_load (t := 3) (g := w.heap.size + 1) (D := b) ⟨64, by kernel_rfl, by kernel_rfl⟩ (by kernel_rfl) (by kernel_rfl) (fun w h => ⟨_, _, (HB1.out.ext h).cell0, (HB1.out.ext h).cell1, HN1.out.ext h⟩) (by intro ρ w x y h1 h2 h3; go_simp) ?_
  refine rel_call2 (Is (.int .i64 (cmpP a b))) (Is.stable _) ⟨64, by kernel_rfl, by kernel_rfl⟩ (f := 26) (fun u u' => #[u, u']) (t := 65) (t' := 66) (S := (Nms (a))) (S' := (Nms (b))) (by kernel_rfl) (by kernel_rfl) (by kernel_rfl) (by kernel_rfl) (by intro ρ w hc hf; go_simp) (fun w u u' hE hu hu' => conB (cmpP_any w u a hu u' b hu' (Sz.mono (S0.out) (by decide)) (Sz.mono (S1.out) (by decide)) HR0.out HR1.out) rfl) ?_
  refine rel_load (t := 2) (g := w.heap.size) (D := a) ⟨64, by kernel_rfl, by kernel_rfl⟩ (by kernel_rfl) (by kernel_rfl) (fun w h => ⟨_, _, (HB0.out.ext h).cell0, (HB0.out.ext h).cell1, HN0.out.ext h⟩) (by intro ρ w x y h1 h2 h3; go_simp) ?_
  refine rel_load (t := 3) (g := w.heap.size + 1) (D := b) ⟨64, by kernel_rfl, by kernel_rfl⟩ (by kernel_rfl) (by kernel_rfl) (fun w h => ⟨_, _, (HB1.out.ext h).cell0, (HB1.out.ext h).cell1, HN1.out.ext h⟩) (by intro ρ w x y h1 h2 h3; go_simp) ?_
  refine rel_call2 (Is (.int .i64 (cmpP a b))) (Is.stable _) ⟨64, by kernel_rfl, by kernel_rfl⟩ (f := 27) (fun u u' => #[u, u']) (t := 68) (t' := 69) (S := (Nms (a))) (S' := (Nms (b))) (by kernel_rfl) (by kernel_rfl) (by kernel_rfl) (by kernel_rfl) (by intro ρ w hc hf; go_simp) (fun w u u' hE hu hu' => conB (cmpR_any w u a hu u' b hu' (Sz.mono (S0.out) (by decide)) (Sz.mono (S1.out) (by decide))) (congrArg (Value.int .i64) ((cmp_eq _ _).symm))) ?_
  refine rel_val2 (t := 67) (t' := 70) (v1 := .int .i64 (cmpP a b)) (v2 := .int .i64 (cmpP a b)) (v := .bool true) ⟨64, by kernel_rfl, by kernel_rfl⟩ (by kernel_rfl) (by kernel_rfl) (by kernel_rfl) (by kernel_rfl) (by intro ρ w hc h1 h2; go_simp) ?_
  refine rel_val2 (t := 64) (t' := 71) (v1 := .bool true) (v2 := .bool true) (v := .bool true) trivial (by kernel_rfl) (by kernel_rfl) (by kernel_rfl) (by kernel_rfl) (by intro ρ w hc h1 h2; go_simp) ?_
  refine rel_move (t := 72) (v := .bool true) rfl trivial (by kernel_rfl) (by kernel_rfl) ?_
  refine rel_call0 (Is (.bool true)) (Is.stable _) ⟨73, by kernel_rfl, by kernel_rfl⟩ (f := 15) #[] (by intro ρ w hc hf; go_simp) (fun w hE => conB (alive_any w) rfl) ?_
  refine rel_val2 (t := 73) (t' := 74) (v1 := .bool true) (v2 := .bool true) (v := .bool true) trivial (by kernel_rfl) (by kernel_rfl) (by kernel_rfl) (by kernel_rfl) (by intro ρ w hc h1 h2; go_simp) ?_
  refine rel_assign_fin (t := 75) (d := 4) (v := .bool true) rfl rfl trivial (by kernel_rfl) (by kernel_rfl) (of_decide_eq_true (by kernel_rfl)) ?_
  intro a' w5 hE5 hv hd
  have HV := Lib.hid hv
  have hd2 : a'.defers = [] := hd
  have HD2 := Lib.hid hd2
  have HF := Lib.hid (HEW.out.trans hE5)
  clear hv hd hd2 hE5
  apply_assumption
  go_wp2
  refine bodyPost_ret (v := .bool true) ?_ HD2.out ⟨rfl, HF.out⟩
  rw [results_tmp (t := 4) rfl, HV.out]
end Go.Proofs.Ytaianhhmmacblaa
