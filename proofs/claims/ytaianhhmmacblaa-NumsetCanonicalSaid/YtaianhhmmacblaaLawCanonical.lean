import Derived.Test.YtaianhhmmacblaaAlive
import Derived.Test.YtaianhhmmacblaaOpen
import Derived.Test.YtaianhhmmacblaaRelKV
import Derived.Test.YtaianhhmmacblaaLaws0
/-
  The law NumsetCanonical.
-/
namespace Go.Proofs.Ytaianhhmmacblaa
open Go Go.RowKit

theorem nm_inv {w : World} {A B : Option Addr} {n m c e : Nat} {d : Nm} (h : NmAt w (.agg #[.slice A n c, .slice B m e]) d) : SlAt w w.heap.size A d.ints ∧ SlAt w w.heap.size B d.fracs := by
  obtain ⟨A', c', B', e', hv, h1, h2⟩ := h
  injection hv with hv
  injection hv with hv
  injection hv with hv hv2
  injection hv with hv _ _
  injection hv2 with hv2 _
  injection hv2 with hv2 _ _
  subst hv hv2
  exact ⟨h1, h2⟩
theorem rev_step (l : List (Int × Int)) (j : Nat) (hj : j < l.length) : (l.drop j).reverse = (l.drop (j + 1)).reverse ++ [l[j]] := by
  rw [List.drop_eq_getElem_cons hj, List.reverse_cons]
theorem inr_rev {l : List (Int × Int)} (h : InR l) : InR l.reverse := fun s hs => h s (List.mem_reverse.1 hs)
theorem c_idem (d : Nm) : sameN (makeR (makeR d)) (makeR d) = true := (sameN_tt _ _).2 (makeR_of_can (makeR_can d))
theorem c_valid (d : Nm) : validNR (makeR d) = true := (validNR_iff _).2 (makeR_can d)
theorem c_same (d : Nm) : sameN (makeR d) d = validNR d := by
  rw [Bool.eq_iff_iff, sameN_tt, validNR_iff]
  exact ⟨fun h => h ▸ makeR_can d, makeR_of_can⟩
theorem c_rev (d : Nm) : sameN (makeR ⟨d.ints.reverse, d.fracs.reverse⟩) (makeR d) = true := (sameN_tt _ _).2 ((makeR_eq_iff _ _).2 fun u => by
  unfold inN
  rw [mem_perm (List.reverse_perm d.ints), mem_perm (List.reverse_perm d.fracs)])
theorem row_keep {w w' : World} {base b : Nat} {A : Option Addr} {n c : Nat} {l : List Sp} (h : Own w base (.slice A n c) l) (hb : ∀ g, (Value.slice A n c).ownBlock = some g → g < b) (hk : ∀ g, base ≤ g → g < b → w'.heap[g]? = w.heap[g]?) : Own w' base (.slice A n c) l :=
  h.keep fun g hg => hk g (h.lt g hg).1 (hb g hg)

set_option maxRecDepth 100000 in
set_option maxHeartbeats 4000000 in
theorem lawCanonical (w : World) (v0 : Value) (d : Nm) (h0 : NmAt w v0 d) (r0 : InR d.fracs)  :
    Calls Try.prog 7 #[v0] w fun e w' => e = .returned (.bool true) ∧ Ext w w' := by
  have g0 := h0
  obtain ⟨A0, c0, B0, e0, rfl, x0, y0⟩ := g0
  have b0 : BlkN (w.alloc (.cells #[.slice A0 d.ints.length c0, .slice B0 d.fracs.length e0] 24)) w.heap.size (.slice A0 d.ints.length c0) (.slice B0 d.fracs.length e0) := by simpa using BlkN.new w (.slice A0 d.ints.length c0) (.slice B0 d.fracs.length e0)
  have hEW : Ext w (w.alloc (.cells #[.slice A0 d.ints.length c0, .slice B0 d.fracs.length e0] 24)) := (Ext.refl w).alloc _
  have hsz : (w.alloc (.cells #[.slice A0 d.ints.length c0, .slice B0 d.fracs.length e0] 24)).heap.size = w.heap.size + 1 := by simp
  go_enter Try.func7, Try.ntmps7
  generalize hW0 : (w.alloc (.cells #[.slice A0 d.ints.length c0, .slice B0 d.fracs.length e0] 24)) = W at *
  have hh := heap_alloc_new W (.cells #[.slice A0 d.ints.length c0, .slice B0 d.fracs.length e0] 24)
  have hE1 := (Ext.refl W).alloc (.cells #[.slice A0 d.ints.length c0, .slice B0 d.fracs.length e0] 24)
  have hz1 : (W.alloc (.cells #[.slice A0 d.ints.length c0, .slice B0 d.fracs.length e0] 24)).heap.size = W.heap.size + 1 := by simp
  have H1 := Lib.hid hh
  have E1 := Lib.hid hE1
  have Z1 := Lib.hid hz1
  have EW := Lib.hid hEW
  have SZ := Lib.hid hsz
  have f0a := b0.cell0
  have f0b := b0.cell1
  have HB0 := Lib.hid b0
  have HN0 := Lib.hid (h0.ext hEW)
  have HR0 := Lib.hid r0
  clear hh hE1 hz1 hEW hsz b0 h0 r0 x0 y0
  have hfew : Calls Try.prog 19 #[.slice (some ⟨W.heap.size, 0, none⟩) 1 1] (W.alloc (.cells #[.slice A0 d.ints.length c0, .slice B0 d.fracs.length e0] 24)) fun e w' => e = .returned (.bool ([(d.ints.length, d.fracs.length)].all fewB)) ∧ Ext (W.alloc (.cells #[.slice A0 d.ints.length c0, .slice B0 d.fracs.length e0] 24)) w' := by
    refine few_any (W.alloc (.cells #[.slice A0 d.ints.length c0, .slice B0 d.fracs.length e0] 24)) W.heap.size [(d.ints.length, d.fracs.length)] 1 (by rw [Z1.out]; omega) ?_ (by simp)
    intro k x hk
    have hh := H1.out
    unfold World.cell?
    match k, hk with
    | 0, hk => injection hk with hk; subst hk; rw [hh]; exact ⟨_, _, _, _, rfl, rfl⟩
  have HFEW := Lib.hid hfew
  clear hfew H1
  cases hf : [(d.ints.length, d.fracs.length)].all fewB
  · rw [hf] at HFEW
    clear hf HB0 HN0 HR0
    go_wp2_with fail
    refine HFEW.out.mono ?_
    rintro e w1 ⟨rfl, hE1⟩
    have HE1 := Lib.hid (EW.out.trans (E1.out.trans hE1))
    clear hE1 HFEW
    go_wp2_with fail
    refine (alive_any _).mono ?_
    rintro e w2 ⟨rfl, hE2⟩
    have HE2 := Lib.hid (HE1.out.trans hE2)
    clear hE2
    go_wp2
    refine bodyPost_ret (results_tmp rfl _ _ _) rfl ⟨rfl, HE2.out⟩
  rw [hf] at HFEW
  have S0 : Hid (Sz 8 d) := Lib.hid (by simp [fewB] at hf; exact ⟨by omega, by omega⟩)
  clear hf
  go_wp2_with fail
  refine HFEW.out.mono ?_
  rintro e w1 ⟨rfl, hE1⟩
  have HB0 := Lib.hid (HB0.out.ext (E1.out.trans hE1))
  have HN0 := Lib.hid (HN0.out.ext (E1.out.trans hE1))
  have HEW := Lib.hid (EW.out.trans (E1.out.trans hE1))
  clear hE1 HFEW hW0 E1 Z1 EW f0a f0b
  have f0a := HB0.out.cell0
  have f0b := HB0.out.cell1
  go_wp2_with fail
  refine (makeP_any _ _ d HN0.out (S0.out.mono (by omega)) HR0.out).mono ?_
  rintro e w2 ⟨r, rfl, ⟨A8, c8, B8, e8, rfl, i8, f8⟩, hE2⟩
  have bm := BlkN.new w2 (.slice A8 (makeR d).ints.length c8) (.slice B8 (makeR d).fracs.length e8)
  have hE3 := hE2.alloc (.cells #[.slice A8 (makeR d).ints.length c8, .slice B8 (makeR d).fracs.length e8] 24)
  have nmm : NmAt (w2.alloc (.cells #[.slice A8 (makeR d).ints.length c8, .slice B8 (makeR d).fracs.length e8] 24)) (.agg #[.slice A8 (makeR d).ints.length c8, .slice B8 (makeR d).fracs.length e8]) (makeR d) := NmAt.ext ⟨_, _, _, _, rfl, i8, f8⟩ ((Ext.refl w2).alloc _)
  clear i8 f8 f0a f0b
  generalize hW3 : w2.alloc (.cells #[.slice A8 (makeR d).ints.length c8, .slice B8 (makeR d).fracs.length e8] 24) = W3 at *
  have HB0 := Lib.hid (HB0.out.ext hE3)
  have HN0 := Lib.hid (HN0.out.ext hE3)
  have HEW := Lib.hid (HEW.out.trans hE3)
  have HBM := Lib.hid bm
  have HNM := Lib.hid nmm
  have hbb := BlkN.new W3 (.slice none 0 0) (.slice none 0 0)
  have hE4 := (Ext.refl W3).alloc (.cells #[.slice none 0 0, .slice none 0 0] 24)
  have hz4 : (W3.alloc (.cells #[.slice none 0 0, .slice none 0 0] 24)).heap.size = W3.heap.size + 1 := by simp
  have HSM : Hid (w2.heap.size < W3.heap.size) := Lib.hid bm.lt
  have HS0 : Hid (w.heap.size < W3.heap.size) := Lib.hid HB0.out.lt
  obtain ⟨sl0, sl1⟩ := nm_inv HN0.out
  have SL0 := Lib.hid sl0
  have SL1 := Lib.hid sl1
  have HBB := Lib.hid hbb
  have HE4 := Lib.hid hE4
  have HZ4 := Lib.hid hz4
  clear bm nmm hE2 hE3 hbb hE4 hz4 sl0 sl1
  generalize hW4 : W3.alloc (.cells #[.slice none 0 0, .slice none 0 0] 24) = W4 at *
  have q0 := (HB0.out.ext HE4.out).cell0
  have q1 := (HB0.out.ext HE4.out).cell1
  have l1 : d.ints.length ≤ 8 := S0.out.1
  have l2 : d.fracs.length ≤ 8 := S0.out.2
  go_wp2_with fail
  clear hW3 hW4 q0 q1
  generalize hl : d.ints = l at *
  generalize hl' : d.fracs = l' at *
  have HL := Lib.hid hl
  have HL' := Lib.hid hl'
  clear hl hl'
  have HRk : Hid (InR d.fracs) := Lib.hid (by rw [HL'.out]; exact HR0.out)
  go_loopw [5] (fun i wr => ∃ (k : Nat) (v : Value), k ≤ l.length ∧ i = .int .i64 ((k : Int) - 1) ∧ Hid (Own wr (W3.heap.size + 1) v ((l.drop k).reverse)) ∧ Hid (BlkN wr W3.heap.size v (.slice none 0 0)) ∧ Hid (Ext W3 wr) ∧ Hid ((W3.heap.size + 1) ≤ wr.heap.size)) (fun i _ => (intOf i + 1).toNat)
  case atStart => exact ⟨l.length, .slice none 0 0, Nat.le_refl _, rfl, by rw [List.drop_length]; exact Lib.hid (Own.nil _ _), HBB, HE4, Lib.hid (by rw [HZ4.out]; exact Nat.le_refl _)⟩
  case round =>
    obtain ⟨k, v, hk, rfl, Hown, Hb, HE, Hsz⟩ := hrel
    rcases Nat.eq_zero_or_pos k with hk0 | hk0
    · subst hk0
      rw [show ((0 : Nat) : Int) - 1 = -1 by omega]
      have hd1 := Hown.out
      rw [show (l.drop 0).reverse = l.reverse by simp] at hd1
      obtain ⟨A6, c6, rfl⟩ : ∃ A c, v = .slice A l.length c := by
        obtain ⟨A6, c6, e⟩ := hd1.form
        exact ⟨A6, c6, by rw [e]; simp⟩
      have Hown6 := Lib.hid hd1
      have hro := fun g hg => (hd1.lt g hg).2
      have hgo := Hb.out.lt
      have q1 := (HB0.out.ext HE.out).cell1
      obtain ⟨wo, rfl⟩ : ∃ wo : World, wo = wr := ⟨_, rfl⟩
      have Hbo := Hb
      have HEo := HE
      clear hd1 Hown Hb HE Hsz
      go_wp2_with fail
      clear q1
      go_loopw [6] (fun i wr => ∃ (k : Nat) (v : Value), k ≤ l'.length ∧ i = .int .i64 ((k : Int) - 1) ∧ Hid (Own wr wo.heap.size v ((l'.drop k).reverse)) ∧ Hid (BlkN wr W3.heap.size (.slice A6 l.length c6) v) ∧ Hid (Ext W3 wr) ∧ Hid (wo.heap.size ≤ wr.heap.size) ∧ Hid (Own wr (W3.heap.size + 1) (.slice A6 l.length c6) l.reverse)) (fun i _ => (intOf i + 1).toNat)
      case atStart => exact ⟨l'.length, .slice none 0 0, Nat.le_refl _, rfl, by rw [List.drop_length]; exact Lib.hid (Own.nil _ _), Hbo, HEo, Lib.hid (Nat.le_refl _), Hown6⟩
      case round =>
        obtain ⟨k, v, hk, rfl, Hown, Hb, HE, Hsz, Hrow⟩ := hrel
        rcases Nat.eq_zero_or_pos k with hk0 | hk0
        · subst hk0
          rw [show ((0 : Nat) : Int) - 1 = -1 by omega]
          have hd2 := Hown.out
          rw [show (l'.drop 0).reverse = l'.reverse by simp] at hd2
          obtain ⟨A7, c7, rfl⟩ : ∃ A c, v = .slice A l'.length c := by
            obtain ⟨A7, c7, e⟩ := hd2.form
            exact ⟨A7, c7, by rw [e]; simp⟩
          have nb : NmAt wr (.agg #[.slice A6 l.length c6, .slice A7 l'.length c7]) ⟨d.ints.reverse, d.fracs.reverse⟩ := ⟨A6, c6, A7, c7, by simp [HL.out, HL'.out], by rw [HL.out]; exact Hrow.out.at_.2, by rw [HL'.out]; exact hd2.at_.2⟩
          have HNb := Lib.hid nb
          have HB0' := Lib.hid (HB0.out.ext HE.out)
          have HN0' := Lib.hid (HN0.out.ext HE.out)
          have HBM' := Lib.hid (HBM.out.ext HE.out)
          have HNM' := Lib.hid (HNM.out.ext HE.out)
          have HEW' := Lib.hid (HEW.out.trans HE.out)
          have sb : Hid (Sz 8 (⟨d.ints.reverse, d.fracs.reverse⟩ : Nm)) := Lib.hid ⟨by simpa using S0.out.1, by simpa using S0.out.2⟩
          clear hd2 nb
          go_wp2_with fail
          refine wp_region_all (m := 26) (by kernel_rfl) rfl rfl rfl (by kernel_rfl) (by kernel_rfl) ?_
          refine rel_load (t := 3) (g := w2.heap.size) (D := makeR d) trivial (by kernel_rfl) (by kernel_rfl) (fun w h => ⟨_, _, (HBM'.out.ext h).cell0, (HBM'.out.ext h).cell1, HNM'.out.ext h⟩) (by intro ρ w x y h1 h2 h3; go_simp) ?_
          refine rel_call1 (Nms (makeR (makeR d))) (Nms.stable _) trivial (f := 33) (fun u => #[u]) (t := 50) (S := (Nms (makeR d))) (by kernel_rfl) (by kernel_rfl) (by intro ρ w hc hf; go_simp) (fun w u hE hu => makeP_any w u (makeR d) hu (Sz.mono (makeR_sz (S0.out)) (by decide)) (inr_can (makeR_can _))) ?_
          refine rel_load (t := 3) (g := w2.heap.size) (D := makeR d) trivial (by kernel_rfl) (by kernel_rfl) (fun w h => ⟨_, _, (HBM'.out.ext h).cell0, (HBM'.out.ext h).cell1, HNM'.out.ext h⟩) (by intro ρ w x y h1 h2 h3; go_simp) ?_
          refine rel_call2 (Is (.bool true)) (Is.stable _) trivial (f := 14) (fun u u' => #[u, u']) (t := 51) (t' := 52) (S := (Nms (makeR (makeR d)))) (S' := (Nms (makeR d))) (by kernel_rfl) (by kernel_rfl) (by kernel_rfl) (by kernel_rfl) (by intro ρ w hc hf; go_simp) (fun w u u' hE hu hu' => conB (sameR_any w u (makeR (makeR d)) hu u' (makeR d) hu' (Sz.mono (makeR_sz (makeR_sz (S0.out))) (by decide)) (Sz.mono (makeR_sz (S0.out)) (by decide))) (congrArg Value.bool (c_idem d))) ?_
          refine rel_move (t := 53) (v := .bool true) rfl trivial (by kernel_rfl) (by kernel_rfl) ?_
          refine rel_load (t := 3) (g := w2.heap.size) (D := makeR d) ⟨54, by kernel_rfl, by kernel_rfl⟩ (by kernel_rfl) (by kernel_rfl) (fun w h => ⟨_, _, (HBM'.out.ext h).cell0, (HBM'.out.ext h).cell1, HNM'.out.ext h⟩) (by intro ρ w x y h1 h2 h3; go_simp) ?_
          refine rel_call1 (Is (.bool true)) (Is.stable _) ⟨54, by kernel_rfl, by kernel_rfl⟩ (f := 35) (fun u => #[u]) (t := 55) (S := (Nms (makeR d))) (by kernel_rfl) (by kernel_rfl) (by intro ρ w hc hf; go_simp) (fun w u hE hu => conB (validP_any' w u (makeR d) hu (Sz.mono (makeR_sz (S0.out)) (by decide)) (inr_can (makeR_can _))) (congrArg Value.bool (c_valid d))) ?_
          refine rel_val2 (t := 54) (t' := 56) (v1 := .bool true) (v2 := .bool true) (v := .bool true) trivial (by kernel_rfl) (by kernel_rfl) (by kernel_rfl) (by kernel_rfl) (by intro ρ w hc h1 h2; go_simp) ?_
          refine rel_move (t := 57) (v := .bool true) rfl trivial (by kernel_rfl) (by kernel_rfl) ?_
          refine rel_load (t := 1) (g := w.heap.size) (D := d) ⟨58, by kernel_rfl, by kernel_rfl⟩ (by kernel_rfl) (by kernel_rfl) (fun w h => ⟨_, _, (HB0'.out.ext h).cell0, (HB0'.out.ext h).cell1, HN0'.out.ext h⟩) (by intro ρ w x y h1 h2 h3; go_simp) ?_
          refine rel_call1 (Is (.bool (validNR d))) (Is.stable _) ⟨58, by kernel_rfl, by kernel_rfl⟩ (f := 35) (fun u => #[u]) (t := 59) (S := (Nms (d))) (by kernel_rfl) (by kernel_rfl) (by intro ρ w hc hf; go_simp) (fun w u hE hu => conB (validP_any' w u d hu (Sz.mono (S0.out) (by decide)) HRk.out) rfl) ?_
          refine rel_load (t := 3) (g := w2.heap.size) (D := makeR d) ⟨58, by kernel_rfl, by kernel_rfl⟩ (by kernel_rfl) (by kernel_rfl) (fun w h => ⟨_, _, (HBM'.out.ext h).cell0, (HBM'.out.ext h).cell1, HNM'.out.ext h⟩) (by intro ρ w x y h1 h2 h3; go_simp) ?_
          refine rel_load (t := 1) (g := w.heap.size) (D := d) ⟨58, by kernel_rfl, by kernel_rfl⟩ (by kernel_rfl) (by kernel_rfl) (fun w h => ⟨_, _, (HB0'.out.ext h).cell0, (HB0'.out.ext h).cell1, HN0'.out.ext h⟩) (by intro ρ w x y h1 h2 h3; go_simp) ?_
          refine rel_call2 (Is (.bool (validNR d))) (Is.stable _) ⟨58, by kernel_rfl, by kernel_rfl⟩ (f := 14) (fun u u' => #[u, u']) (t := 61) (t' := 62) (S := (Nms (makeR d))) (S' := (Nms (d))) (by kernel_rfl) (by kernel_rfl) (by kernel_rfl) (by kernel_rfl) (by intro ρ w hc hf; go_simp) (fun w u u' hE hu hu' => conB (sameR_any w u (makeR d) hu u' d hu' (Sz.mono (makeR_sz (S0.out)) (by decide)) (Sz.mono (S0.out) (by decide))) (congrArg Value.bool (c_same d))) ?_
          refine rel_val2 (t := 60) (t' := 63) (v1 := .bool (validNR d)) (v2 := .bool (validNR d)) (v := .bool true) ⟨58, by kernel_rfl, by kernel_rfl⟩ (by kernel_rfl) (by kernel_rfl) (by kernel_rfl) (by kernel_rfl) (by intro ρ w hc h1 h2; go_simp) ?_
          refine rel_val2 (t := 58) (t' := 64) (v1 := .bool true) (v2 := .bool true) (v := .bool true) trivial (by kernel_rfl) (by kernel_rfl) (by kernel_rfl) (by kernel_rfl) (by intro ρ w hc h1 h2; go_simp) ?_
          refine rel_move (t := 65) (v := .bool true) rfl trivial (by kernel_rfl) (by kernel_rfl) ?_
          refine rel_load (t := 4) (g := W3.heap.size) (D := ⟨d.ints.reverse, d.fracs.reverse⟩) ⟨66, by kernel_rfl, by kernel_rfl⟩ (by kernel_rfl) (by kernel_rfl) (fun w h => ⟨_, _, (Hb.out.ext h).cell0, (Hb.out.ext h).cell1, HNb.out.ext h⟩) (by intro ρ w x y h1 h2 h3; go_simp) ?_
          refine rel_call1 (Nms (makeR ⟨d.ints.reverse, d.fracs.reverse⟩)) (Nms.stable _) ⟨66, by kernel_rfl, by kernel_rfl⟩ (f := 33) (fun u => #[u]) (t := 67) (S := (Nms (⟨d.ints.reverse, d.fracs.reverse⟩))) (by kernel_rfl) (by kernel_rfl) (by intro ρ w hc hf; go_simp) (fun w u hE hu => makeP_any w u ⟨d.ints.reverse, d.fracs.reverse⟩ hu (Sz.mono (sb.out) (by decide)) (inr_rev HRk.out)) ?_
          refine rel_load (t := 3) (g := w2.heap.size) (D := makeR d) ⟨66, by kernel_rfl, by kernel_rfl⟩ (by kernel_rfl) (by kernel_rfl) (fun w h => ⟨_, _, (HBM'.out.ext h).cell0, (HBM'.out.ext h).cell1, HNM'.out.ext h⟩) (by intro ρ w x y h1 h2 h3; go_simp) ?_
          refine rel_call2 (Is (.bool true)) (Is.stable _) ⟨66, by kernel_rfl, by kernel_rfl⟩ (f := 14) (fun u u' => #[u, u']) (t := 68) (t' := 69) (S := (Nms (makeR ⟨d.ints.reverse, d.fracs.reverse⟩))) (S' := (Nms (makeR d))) (by kernel_rfl) (by kernel_rfl) (by kernel_rfl) (by kernel_rfl) (by intro ρ w hc hf; go_simp) (fun w u u' hE hu hu' => conB (sameR_any w u (makeR ⟨d.ints.reverse, d.fracs.reverse⟩) hu u' (makeR d) hu' (Sz.mono (makeR_sz (sb.out)) (by decide)) (Sz.mono (makeR_sz (S0.out)) (by decide))) (congrArg Value.bool (c_rev d))) ?_
          refine rel_val2 (t := 66) (t' := 70) (v1 := .bool true) (v2 := .bool true) (v := .bool true) trivial (by kernel_rfl) (by kernel_rfl) (by kernel_rfl) (by kernel_rfl) (by intro ρ w hc h1 h2; go_simp) ?_
          refine rel_move (t := 71) (v := .bool true) rfl trivial (by kernel_rfl) (by kernel_rfl) ?_
          refine rel_call0 (Is (.bool true)) (Is.stable _) ⟨72, by kernel_rfl, by kernel_rfl⟩ (f := 15) #[] (by intro ρ w hc hf; go_simp) (fun w hE => conB (alive_any w) rfl) ?_
          refine rel_val2 (t := 72) (t' := 73) (v1 := .bool true) (v2 := .bool true) (v := .bool true) trivial (by kernel_rfl) (by kernel_rfl) (by kernel_rfl) (by kernel_rfl) (by intro ρ w hc h1 h2; go_simp) ?_
          refine rel_assign_fin (t := 74) (d := 2) (v := .bool true) rfl rfl trivial (by kernel_rfl) (by kernel_rfl) (of_decide_eq_true (by kernel_rfl)) ?_
          intro a' w5 hE5 hv hd
          have HV := Lib.hid hv
          have hd2 : a'.defers = [] := hd
          have HD2 := Lib.hid hd2
          have HF := Lib.hid (HEW'.out.trans hE5)
          clear hv hd hd2 hE5
          apply_assumption
          go_wp2
          refine bodyPost_ret (v := .bool true) ?_ HD2.out ⟨rfl, HF.out⟩
          rw [results_tmp (t := 2) rfl, HV.out]
        · obtain ⟨j, rfl⟩ : ∃ j, k = j + 1 := ⟨k - 1, by omega⟩
          have hij : ((j + 1 : Nat) : Int) - 1 = (j : Int) := by omega
          rw [hij]
          clear hij
          have hj : j < l'.length := by omega
          have hstep := Lib.hid (rev_step l' j hj)
          obtain ⟨b, off, hA0, hbB, hc0, hc1⟩ := (SL1.out).at_ hj
          have f0 := fun w' (h : Ext wr w') => ((HE.out.trans h).cell ⟨b, off + j * 2, none⟩ hbB).trans hc0
          have f1 := fun w' (h : Ext wr w') => ((HE.out.trans h).cell ⟨b, off + j * 2 + 1, none⟩ hbB).trans hc1
          have f2 := fun w' (h : Ext wr w') => ((HB0.out.ext (HE.out.trans h)).cell1)
          have f3 := fun w' (h : Ext wr w') => ((Hb.out.ext h).cell1)
          have hlen : ((l'.drop (j + 1)).reverse).length ≤ 8 := by simp; omega
          have HA0 := Lib.hid hA0
          clear hc0 hc1 hA0
          generalize l'[j] = s at *
          generalize (l'.drop (j + 1)).reverse = acc at *
          obtain ⟨lo, hi⟩ := s
          simp only at f0 f1
          go_wp2
          rw [HA0.out] at f2
          refine wp_region_rel (E := Ext) (m := 8) (n := 75) (by kernel_rfl) rfl (by decide) rfl (by kernel_rfl) (by kernel_rfl) ((Ext.refl _).drawn _) Ext.refl (fun _ _ _ => Ext.trans) ?_
          simp only [List.take_succ_cons, List.take_zero]
          apply rel_pure
          · intro a w' K' hE' he hK
            simp [Oper.looksAt, Op.operands] at he
            go_simp
            exact hK _ rfl
          apply rel_pure
          · intro a w' K' hE' he hK
            simp [Oper.looksAt, Op.operands, upd] at he
            go_simp
            exact hK _ rfl
          apply rel_pure
          · intro a w' K' hE' he hK
            simp [Oper.looksAt, Op.operands, upd] at he
            go_simp
            exact hK _ rfl
          apply rel_pure
          · intro a w' K' hE' he hK
            simp [Oper.looksAt, Op.operands, upd] at he
            go_simp
            exact hK _ rfl
          apply rel_pure
          · intro a w' K' hE' he hK
            simp [Oper.looksAt, Op.operands, upd] at he
            go_simp
            exact hK _ rfl
          apply rel_pure
          · intro a w' K' hE' he hK
            simp [Oper.looksAt, Op.operands, upd] at he
            go_simp
            exact hK _ rfl
          apply rel_pure
          · intro a w' K' hE' he hK
            simp [Oper.looksAt, Op.operands, upd] at he
            go_simp
            exact hK _ rfl
          refine rel_any (Sl1 lo hi) (Sl1.stable _ _) ?_ ?_
          · intro a w' K' hE' he hK
            simp [Oper.looksAt, Op.operands, upd] at he
            go_simp
            exact hK _ _ ((Ext.refl _).alloc _) ⟨_, rfl, Blk2.new _ _ _⟩
          refine relSeq_nil fun w3 hE3 => ?_
          simp only [fin, List.nil_append, List.cons_append]
          rintro _ rfl _ rfl _ rfl _ rfl _ rfl _ rfl _ rfl _ ⟨g, rfl, hg⟩
          have hown3 := Hown.out.ext hE3
          have hb3 := Hb.out.ext hE3
          have hsz0 := Hsz.out
          have hgl := hg.lt
          have hs3 := hE3.size
          have g0 := hg.cell0
          have g1 := hg.cell1
          have HEr := Lib.hid (HE.out.trans hE3)
          have hrow3 := Hrow.out.ext (show Ext wr w3 from by assumption)
          clear f0 f1 f2 f3 hE3 hg
          simp only [Act.put]
          simp
          refine app_one rfl _ _ rfl wo.heap.size _ acc g lo hi rfl hown3 rfl g0 g1 (by omega) (by omega) ?_
          intro v' w4 hown4 hB4 hfar
          have hs4 := hB4.size
          have hgb : W3.heap.size < wo.heap.size := hgo
          have hb4 := hb3.below hB4 (by omega)
          have hE4 : Ext W3 w4 := HEr.out.trans' (hB4.mono (by omega))
          have hrow4 := row_keep hrow3 hro fun g _ hg2 => hfar g (by omega) fun e => by have := (hown3.lt g e).1; omega
          have e1 := hb4.cell1
          have e2 := hb4.frozen0 1
          have hown5 : ∀ u, Own (w4.setCell ⟨W3.heap.size, 1, none⟩ u) wo.heap.size v' ((l'.drop j).reverse) := fun u =>
            own_cast (hown4.setOther (p := ⟨W3.heap.size, 1, none⟩) (fun e => by have := (hown4.lt W3.heap.size e).1; omega) u) hstep.out.symm
          have hb5 := hb4.set1 v'
          have hE5 := hE4.setCell (p := ⟨W3.heap.size, 1, none⟩) (Nat.le_refl _) v'
          have hown6 := hown5 v'
          have hrow5 := hrow4.setOther (p := ⟨W3.heap.size, 1, none⟩) (fun e => by have := (hrow4.lt W3.heap.size e).1; omega) v'
          have Hrow5' := Lib.hid hrow5
          clear hrow3 hrow4 hrow5
          obtain ⟨A7, c7, hv7⟩ : ∃ A c, v' = .slice A (acc.length + 1) c := by
            obtain ⟨A7, c7, e⟩ := hown4.form
            exact ⟨A7, c7, by rw [e]; simp⟩
          have Hown6' := Lib.hid hown6
          have Hb5' := Lib.hid hb5
          have HE5' := Lib.hid hE5
          have hs5 : wo.heap.size ≤ (w4.setCell ⟨W3.heap.size, 1, none⟩ v').heap.size := by simp [World.setCell]; omega
          have Hs5' := Lib.hid hs5
          subst hv7
          clear hown4 hB4 hb3 hown3 hb4 hE4 hown5 g0 g1 hown6 hb5 hE5 hs5 hfar
          go_wp2
          apply_assumption
          go_wp2
          go_roundw
          case rel => exact ⟨j, _, by omega, rfl, Hown6', Hb5', HE5', Hs5', Hrow5'⟩
          case measure => simp [intOf] <;> omega
    · obtain ⟨j, rfl⟩ : ∃ j, k = j + 1 := ⟨k - 1, by omega⟩
      have hij : ((j + 1 : Nat) : Int) - 1 = (j : Int) := by omega
      rw [hij]
      clear hij
      have hj : j < l.length := by omega
      have hstep := Lib.hid (rev_step l j hj)
      obtain ⟨b, off, hA0, hbB, hc0, hc1⟩ := (SL0.out).at_ hj
      have f0 := fun w' (h : Ext wr w') => ((HE.out.trans h).cell ⟨b, off + j * 2, none⟩ hbB).trans hc0
      have f1 := fun w' (h : Ext wr w') => ((HE.out.trans h).cell ⟨b, off + j * 2 + 1, none⟩ hbB).trans hc1
      have f2 := fun w' (h : Ext wr w') => ((HB0.out.ext (HE.out.trans h)).cell0)
      have f3 := fun w' (h : Ext wr w') => ((Hb.out.ext h).cell0)
      have hlen : ((l.drop (j + 1)).reverse).length ≤ 8 := by simp; omega
      have HA0 := Lib.hid hA0
      clear hc0 hc1 hA0
      generalize l[j] = s at *
      generalize (l.drop (j + 1)).reverse = acc at *
      obtain ⟨lo, hi⟩ := s
      simp only at f0 f1
      go_wp2
      rw [HA0.out] at f2
      refine wp_region_rel (E := Ext) (m := 8) (n := 75) (by kernel_rfl) rfl (by decide) rfl (by kernel_rfl) (by kernel_rfl) ((Ext.refl _).drawn _) Ext.refl (fun _ _ _ => Ext.trans) ?_
      simp only [List.take_succ_cons, List.take_zero]
      apply rel_pure
      · intro a w' K' hE' he hK
        simp [Oper.looksAt, Op.operands] at he
        go_simp
        exact hK _ rfl
      apply rel_pure
      · intro a w' K' hE' he hK
        simp [Oper.looksAt, Op.operands, upd] at he
        go_simp
        exact hK _ rfl
      apply rel_pure
      · intro a w' K' hE' he hK
        simp [Oper.looksAt, Op.operands, upd] at he
        go_simp
        exact hK _ rfl
      apply rel_pure
      · intro a w' K' hE' he hK
        simp [Oper.looksAt, Op.operands, upd] at he
        go_simp
        exact hK _ rfl
      apply rel_pure
      · intro a w' K' hE' he hK
        simp [Oper.looksAt, Op.operands, upd] at he
        go_simp
        exact hK _ rfl
      apply rel_pure
      · intro a w' K' hE' he hK
        simp [Oper.looksAt, Op.operands, upd] at he
        go_simp
        exact hK _ rfl
      apply rel_pure
      · intro a w' K' hE' he hK
        simp [Oper.looksAt, Op.operands, upd] at he
        go_simp
        exact hK _ rfl
      refine rel_any (Sl1 lo hi) (Sl1.stable _ _) ?_ ?_
      · intro a w' K' hE' he hK
        simp [Oper.looksAt, Op.operands, upd] at he
        go_simp
        exact hK _ _ ((Ext.refl _).alloc _) ⟨_, rfl, Blk2.new _ _ _⟩
      refine relSeq_nil fun w3 hE3 => ?_
      simp only [fin, List.nil_append, List.cons_append]
      rintro _ rfl _ rfl _ rfl _ rfl _ rfl _ rfl _ rfl _ ⟨g, rfl, hg⟩
      have hown3 := Hown.out.ext hE3
      have hb3 := Hb.out.ext hE3
      have hsz0 := Hsz.out
      have hgl := hg.lt
      have hs3 := hE3.size
      have g0 := hg.cell0
      have g1 := hg.cell1
      have HEr := Lib.hid (HE.out.trans hE3)
      clear f0 f1 f2 f3 hE3 hg
      simp only [Act.put]
      simp
      refine app_one rfl _ _ rfl (W3.heap.size + 1) _ acc g lo hi rfl hown3 rfl g0 g1 (by omega) (by omega) ?_
      intro v' w4 hown4 hB4 hfar
      have hs4 := hB4.size
      have hgb : W3.heap.size < (W3.heap.size + 1) := by omega
      have hb4 := hb3.below hB4 (by omega)
      have hE4 : Ext W3 w4 := HEr.out.trans' (hB4.mono (by omega))
      have e1 := hb4.cell0
      have e2 := hb4.frozen0 0
      have hown5 : ∀ u, Own (w4.setCell ⟨W3.heap.size, 0, none⟩ u) (W3.heap.size + 1) v' ((l.drop j).reverse) := fun u =>
        own_cast (hown4.setOther (p := ⟨W3.heap.size, 0, none⟩) (fun e => by have := (hown4.lt W3.heap.size e).1; omega) u) hstep.out.symm
      have hb5 := hb4.set0 v'
      have hE5 := hE4.setCell (p := ⟨W3.heap.size, 0, none⟩) (Nat.le_refl _) v'
      have hown6 := hown5 v'
      obtain ⟨A7, c7, hv7⟩ : ∃ A c, v' = .slice A (acc.length + 1) c := by
        obtain ⟨A7, c7, e⟩ := hown4.form
        exact ⟨A7, c7, by rw [e]; simp⟩
      have Hown6' := Lib.hid hown6
      have Hb5' := Lib.hid hb5
      have HE5' := Lib.hid hE5
      have hs5 : (W3.heap.size + 1) ≤ (w4.setCell ⟨W3.heap.size, 0, none⟩ v').heap.size := by simp [World.setCell]; omega
      have Hs5' := Lib.hid hs5
      subst hv7
      clear hown4 hB4 hb3 hown3 hb4 hE4 hown5 g0 g1 hown6 hb5 hE5 hs5 hfar
      go_wp2
      apply_assumption
      go_wp2
      go_roundw
      case rel => exact ⟨j, _, by omega, rfl, Hown6', Hb5', HE5', Hs5'⟩
      case measure => simp [intOf] <;> omega

end Go.Proofs.Ytaianhhmmacblaa
