import Derived.Test.YtaianhhmmacblaaAlive
import Derived.Test.YtaianhhmmacblaaOpen
import Derived.Test.YtaianhhmmacblaaHasR
/-
  The law NumsetMake.
-/
namespace Go.Proofs.Ytaianhhmmacblaa
open Go.RowKit

set_option maxRecDepth 100000 in
set_option maxHeartbeats 4000000 in
theorem lawMake (w : World) (v0 : Value) (d : Nm) (h0 : NmAt w v0 d) (r0 : InR d.fracs) (n : Int) (hn : -9223372036854775808 ≤ n ∧ n ≤ 9223372036854775807) :
    Calls Try.prog 6 #[v0, .int .i64 n] w fun e w' => e = .returned (.bool true) ∧ Ext w w' := by
  have g0 := h0
  obtain ⟨A0, c0, B0, e0, rfl, x0, y0⟩ := g0
  have b0 : BlkN (w.alloc (.cells #[.slice A0 d.ints.length c0, .slice B0 d.fracs.length e0] 24)) w.heap.size (.slice A0 d.ints.length c0) (.slice B0 d.fracs.length e0) := by simpa using BlkN.new w (.slice A0 d.ints.length c0) (.slice B0 d.fracs.length e0)
  have hEW : Ext w (w.alloc (.cells #[.slice A0 d.ints.length c0, .slice B0 d.fracs.length e0] 24)) := (Ext.refl w).alloc _
  have hsz : (w.alloc (.cells #[.slice A0 d.ints.length c0, .slice B0 d.fracs.length e0] 24)).heap.size = w.heap.size + 1 := by simp
  go_enter Try.func6, Try.ntmps6
  generalize hW0 : (w.alloc (.cells #[.slice A0 d.ints.length c0, .slice B0 d.fracs.length e0] 24)) = W at *
  have hh := heap_alloc_new W (.cells #[.slice A0 d.ints.length c0, .slice B0 d.fracs.length e0] 24)
  have hE1 := (Ext.refl W).alloc (.cells #[.slice A0 d.ints.length c0, .slice B0 d.fracs.length e0] 24)
  have hz1 : (W.alloc (.cells #[.slice A0 d.ints.length c0, .slice B0 d.fracs.length e0] 24)).heap.size = W.heap.size + 1 := by simp
  have H1 := Lib.hid hh
  have E1 := Lib.hid hE1
  have Z1 := Lib.hid hz1
  have EW := Lib.hid hEW
  have SZ := Lib.hid hsz
  have f0a := b0.cell0
  have f0b := b0.cell1
  have HB0 := Lib.hid b0
  have HN0 := Lib.hid (h0.ext hEW)
  have HR0 := Lib.hid r0
  clear hh hE1 hz1 hEW hsz b0 h0 r0 x0 y0
  have hfew : Calls Try.prog 19 #[.slice (some ⟨W.heap.size, 0, none⟩) 1 1] (W.alloc (.cells #[.slice A0 d.ints.length c0, .slice B0 d.fracs.length e0] 24)) fun e w' => e = .returned (.bool ([(d.ints.length, d.fracs.length)].all fewB)) ∧ Ext (W.alloc (.cells #[.slice A0 d.ints.length c0, .slice B0 d.fracs.length e0] 24)) w' := by
    refine few_any (W.alloc (.cells #[.slice A0 d.ints.length c0, .slice B0 d.fracs.length e0] 24)) W.heap.size [(d.ints.length, d.fracs.length)] 1 (by rw [Z1.out]; omega) ?_ (by simp)
    intro k x hk
    have hh := H1.out
    unfold World.cell?
    match k, hk with
    | 0, hk => injection hk with hk; subst hk; rw [hh]; exact ⟨_, _, _, _, rfl, rfl⟩
  have HFEW := Lib.hid hfew
  clear hfew H1
  cases hf : [(d.ints.length, d.fracs.length)].all fewB
  · rw [hf] at HFEW
    clear hf HB0 HN0 HR0
    go_wp2_with fail
    refine HFEW.out.mono ?_
    rintro e w1 ⟨rfl, hE1⟩
    have HE1 := Lib.hid (EW.out.trans (E1.out.trans hE1))
    clear hE1 HFEW
    go_wp2_with fail
    refine (alive_any _).mono ?_
    rintro e w2 ⟨rfl, hE2⟩
    have HE2 := Lib.hid (HE1.out.trans hE2)
    clear hE2
    go_wp2
    refine bodyPost_ret (results_tmp rfl _ _ _) rfl ⟨rfl, HE2.out⟩
  rw [hf] at HFEW
  have S0 : Hid (Sz 8 d) := Lib.hid (by simp [fewB] at hf; exact ⟨by omega, by omega⟩)
  clear hf
  go_wp2_with fail
  refine HFEW.out.mono ?_
  rintro e w1 ⟨rfl, hE1⟩
  have HB0 := Lib.hid (HB0.out.ext (E1.out.trans hE1))
  have HN0 := Lib.hid (HN0.out.ext (E1.out.trans hE1))
  have HEW := Lib.hid (EW.out.trans (E1.out.trans hE1))
  clear hE1 HFEW hW0 E1 Z1 EW f0a f0b
  go_wp2_with fail
  refine wp_region_all (m := 35) (by kernel_rfl) rfl rfl rfl (by kernel_rfl) (by kernel_rfl) ?_
  refine rel_load (t := 2) (g := w.heap.size) (D := d) trivial (by kernel_rfl) (by kernel_rfl) (fun w h => ⟨_, _, (HB0.out.ext h).cell0, (HB0.out.ext h).cell1, HN0.out.ext h⟩) (by intro ρ w x y h1 h2 h3; go_simp) ?_
  refine rel_call1 (Nms (makeR d)) (Nms.stable _) trivial (f := 33) (fun u => #[u]) (t := 10) (S := (Nms (d))) (by kernel_rfl) (by kernel_rfl) (by intro ρ w hc hf; go_simp) (fun w u hE hu => makeP_any w u d hu (Sz.mono (S0.out) (by decide)) HR0.out) ?_
  refine rel_load (t := 2) (g := w.heap.size) (D := d) trivial (by kernel_rfl) (by kernel_rfl) (fun w h => ⟨_, _, (HB0.out.ext h).cell0, (HB0.out.ext h).cell1, HN0.out.ext h⟩) (by intro ρ w x y h1 h2 h3; go_simp) ?_
  refine rel_call1 (Nms (makeR d)) (Nms.stable _) trivial (f := 34) (fun u => #[u]) (t := 12) (S := (Nms (d))) (by kernel_rfl) (by kernel_rfl) (by intro ρ w hc hf; go_simp) (fun w u hE hu => makeR_any w u d hu (Sz.mono (S0.out) (by decide))) ?_
  refine rel_call2 (Is (.bool true)) (Is.stable _) trivial (f := 14) (fun u u' => #[u, u']) (t := 11) (t' := 13) (S := (Nms (makeR d))) (S' := (Nms (makeR d))) (by kernel_rfl) (by kernel_rfl) (by kernel_rfl) (by kernel_rfl) (by intro ρ w hc hf; go_simp) (fun w u u' hE hu hu' => conB (sameR_any w u (makeR d) hu u' (makeR d) hu' (Sz.mono (makeR_sz (S0.out)) (by decide)) (Sz.mono (makeR_sz (S0.out)) (by decide))) (congrArg Value.bool ((sameN_tt _ _).2 rfl))) ?_
  refine rel_move (t := 14) (v := .bool true) rfl trivial (by kernel_rfl) (by kernel_rfl) ?_
  refine rel_load (t := 2) (g := w.heap.size) (D := d) ⟨15, by kernel_rfl, by kernel_rfl⟩ (by kernel_rfl) (by kernel_rfl) (fun w h => ⟨_, _, (HB0.out.ext h).cell0, (HB0.out.ext h).cell1, HN0.out.ext h⟩) (by intro ρ w x y h1 h2 h3; go_simp) ?_
  refine rel_call1 (Is (.bool (validNR d))) (Is.stable _) ⟨15, by kernel_rfl, by kernel_rfl⟩ (f := 35) (fun u => #[u]) (t := 16) (S := (Nms (d))) (by kernel_rfl) (by kernel_rfl) (by intro ρ w hc hf; go_simp) (fun w u hE hu => conB (validP_any' w u d hu (Sz.mono (S0.out) (by decide)) HR0.out) rfl) ?_
  refine rel_load (t := 2) (g := w.heap.size) (D := d) ⟨15, by kernel_rfl, by kernel_rfl⟩ (by kernel_rfl) (by kernel_rfl) (fun w h => ⟨_, _, (HB0.out.ext h).cell0, (HB0.out.ext h).cell1, HN0.out.ext h⟩) (by intro ρ w x y h1 h2 h3; go_simp) ?_
  refine rel_call1 (Is (.bool (validNR d))) (Is.stable _) ⟨15, by kernel_rfl, by kernel_rfl⟩ (f := 36) (fun u => #[u]) (t := 18) (S := (Nms (d))) (by kernel_rfl) (by kernel_rfl) (by intro ρ w hc hf; go_simp) (fun w u hE hu => conB (validNR_any w u d hu (Sz.mono (S0.out) (by decide))) rfl) ?_
  refine rel_val2 (t := 17) (t' := 19) (v1 := .bool (validNR d)) (v2 := .bool (validNR d)) (v := .bool true) ⟨15, by kernel_rfl, by kernel_rfl⟩ (by kernel_rfl) (by kernel_rfl) (by kernel_rfl) (by kernel_rfl) (by intro ρ w hc h1 h2; go_simp) ?_
  refine rel_val2 (t := 15) (t' := 20) (v1 := .bool true) (v2 := .bool true) (v := .bool true) trivial (by kernel_rfl) (by kernel_rfl) (by kernel_rfl) (by kernel_rfl) (by intro ρ w hc h1 h2; go_simp) ?_
  refine rel_move (t := 21) (v := .bool true) rfl trivial (by kernel_rfl) (by kernel_rfl) ?_
  refine rel_load (t := 2) (g := w.heap.size) (D := d) ⟨22, by kernel_rfl, by kernel_rfl⟩ (by kernel_rfl) (by kernel_rfl) (fun w h => ⟨_, _, (HB0.out.ext h).cell0, (HB0.out.ext h).cell1, HN0.out.ext h⟩) (by intro ρ w x y h1 h2 h3; go_simp) ?_
  refine rel_move (t := 1) (v := .int .i64 n) rfl ⟨22, by kernel_rfl, by kernel_rfl⟩ (by kernel_rfl) (by kernel_rfl) ?_
  refine rel_call2 (Is (.bool (hasL d n))) (Is.stable _) ⟨22, by kernel_rfl, by kernel_rfl⟩ (f := 16) (fun u u' => #[u, u']) (t := 23) (t' := 24) (S := (Nms (d))) (S' := (Is (.int .i64 n))) (by kernel_rfl) (by kernel_rfl) (by kernel_rfl) (by kernel_rfl) (by intro ρ w hc hf; go_simp) (fun w u u' hE hu hu' => by rw [show u' = .int .i64 n from hu']; exact conB (hasP_any w u d n hu (Sz.mono (S0.out) (by decide)) HR0.out hn.1 hn.2) (congrArg Value.bool (hasP_eq _ _))) ?_
  refine rel_load (t := 2) (g := w.heap.size) (D := d) ⟨22, by kernel_rfl, by kernel_rfl⟩ (by kernel_rfl) (by kernel_rfl) (fun w h => ⟨_, _, (HB0.out.ext h).cell0, (HB0.out.ext h).cell1, HN0.out.ext h⟩) (by intro ρ w x y h1 h2 h3; go_simp) ?_
  refine rel_move (t := 1) (v := .int .i64 n) rfl ⟨22, by kernel_rfl, by kernel_rfl⟩ (by kernel_rfl) (by kernel_rfl) ?_
  refine rel_call2 (Is (.bool (hasL d n))) (Is.stable _) ⟨22, by kernel_rfl, by kernel_rfl⟩ (f := 37) (fun u u' => #[u, u']) (t := 26) (t' := 27) (S := (Nms (d))) (S' := (Is (.int .i64 n))) (by kernel_rfl) (by kernel_rfl) (by kernel_rfl) (by kernel_rfl) (by intro ρ w hc hf; go_simp) (fun w u u' hE hu hu' => by rw [show u' = .int .i64 n from hu']; exact conB (hasR_any w u d hu n (Sz.mono (S0.out) (by decide)) hn) rfl) ?_
  refine rel_val2 (t := 25) (t' := 28) (v1 := .bool (hasL d n)) (v2 := .bool (hasL d n)) (v := .bool true) ⟨22, by kernel_rfl, by kernel_rfl⟩ (by kernel_rfl) (by kernel_rfl) (by kernel_rfl) (by kernel_rfl) (by intro ρ w hc h1 h2; go_simp) ?_
  refine rel_val2 (t := 22) (t' := 29) (v1 := .bool true) (v2 := .bool true) (v := .bool true) trivial (by kernel_rfl) (by kernel_rfl) (by kernel_rfl) (by kernel_rfl) (by intro ρ w hc h1 h2; go_simp) ?_
  refine rel_move (t := 30) (v := .bool true) rfl trivial (by kernel_rfl) (by kernel_rfl) ?_
  refine rel_call0 (Nms (allN)) (Nms.stable _) ⟨31, by kernel_rfl, by kernel_rfl⟩ (f := 31) #[] (by intro ρ w hc hf; go_simp) (fun w hE => allP_any w) ?_
  refine rel_call0 (Nms (allN)) (Nms.stable _) ⟨31, by kernel_rfl, by kernel_rfl⟩ (f := 38) #[] (by intro ρ w hc hf; go_simp) (fun w hE => allR_any w) ?_
  refine rel_call2 (Is (.bool true)) (Is.stable _) ⟨31, by kernel_rfl, by kernel_rfl⟩ (f := 14) (fun u u' => #[u, u']) (t := 32) (t' := 33) (S := (Nms (allN))) (S' := (Nms (allN))) (by kernel_rfl) (by kernel_rfl) (by kernel_rfl) (by kernel_rfl) (by intro ρ w hc hf; go_simp) (fun w u u' hE hu hu' => conB (sameR_any w u allN hu u' allN hu' (Sz.mono ((⟨by decide, by decide⟩ : Sz 1 allN)) (by decide)) (Sz.mono ((⟨by decide, by decide⟩ : Sz 1 allN)) (by decide))) (congrArg Value.bool ((sameN_tt _ _).2 rfl))) ?_
  refine rel_val2 (t := 31) (t' := 34) (v1 := .bool true) (v2 := .bool true) (v := .bool true) trivial (by kernel_rfl) (by kernel_rfl) (by kernel_rfl) (by kernel_rfl) (by intro ρ w hc h1 h2; go_simp) ?_
  refine rel_move (t := 35) (v := .bool true) rfl trivial (by kernel_rfl) (by kernel_rfl) ?_
  refine rel_call0 (Nms (intsN)) (Nms.stable _) ⟨36, by kernel_rfl, by kernel_rfl⟩ (f := 39) #[] (by intro ρ w hc hf; go_simp) (fun w hE => intsP_any w) ?_
  refine rel_call0 (Nms (intsN)) (Nms.stable _) ⟨36, by kernel_rfl, by kernel_rfl⟩ (f := 40) #[] (by intro ρ w hc hf; go_simp) (fun w hE => intsRset_any w) ?_
  refine rel_call2 (Is (.bool true)) (Is.stable _) ⟨36, by kernel_rfl, by kernel_rfl⟩ (f := 14) (fun u u' => #[u, u']) (t := 37) (t' := 38) (S := (Nms (intsN))) (S' := (Nms (intsN))) (by kernel_rfl) (by kernel_rfl) (by kernel_rfl) (by kernel_rfl) (by intro ρ w hc hf; go_simp) (fun w u u' hE hu hu' => conB (sameR_any w u intsN hu u' intsN hu' (Sz.mono ((⟨by decide, by decide⟩ : Sz 1 intsN)) (by decide)) (Sz.mono ((⟨by decide, by decide⟩ : Sz 1 intsN)) (by decide))) (congrArg Value.bool ((sameN_tt _ _).2 rfl))) ?_
  refine rel_val2 (t := 36) (t' := 39) (v1 := .bool true) (v2 := .bool true) (v := .bool true) trivial (by kernel_rfl) (by kernel_rfl) (by kernel_rfl) (by kernel_rfl) (by intro ρ w hc h1 h2; go_simp) ?_
  refine rel_move (t := 40) (v := .bool true) rfl trivial (by kernel_rfl) (by kernel_rfl) ?_
  refine rel_call0 (Is (.bool true)) (Is.stable _) ⟨41, by kernel_rfl, by kernel_rfl⟩ (f := 15) #[] (by intro ρ w hc hf; go_simp) (fun w hE => conB (alive_any w) rfl) ?_
  refine rel_val2 (t := 41) (t' := 42) (v1 := .bool true) (v2 := .bool true) (v := .bool true) trivial (by kernel_rfl) (by kernel_rfl) (by kernel_rfl) (by kernel_rfl) (by intro ρ w hc h1 h2; go_simp) ?_
  refine rel_assign_fin (t := 43) (d := 4) (v := .bool true) rfl rfl trivial (by kernel_rfl) (by kernel_rfl) (of_decide_eq_true (by kernel_rfl)) ?_
  intro a' w5 hE5 hv hd
  have HV := Lib.hid hv
  have hd2 : a'.defers = [] := hd
  have HD2 := Lib.hid hd2
  have HF := Lib.hid (HEW.out.trans hE5)
  clear hv hd hd2 hE5
  apply_assumption
  go_wp2
  refine bodyPost_ret (v := .bool true) ?_ HD2.out ⟨rfl, HF.out⟩
  rw [results_tmp (t := 4) rfl, HV.out]
end Go.Proofs.Ytaianhhmmacblaa
