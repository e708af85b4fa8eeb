import Derived.Test.YtaianhhmmacblaaCountP
/-
  The program's Least.
-/
namespace Go.Proofs.Ytaianhhmmacblaa
open Go.RowKit

theorem Ext.trans' {a b c : World} (h : Ext a b) (k : Below a.heap.size b c) : Ext a c := Below.trans h k
theorem tk_bd {B : Int} {st : Int × Bool} {u : Int} (h : -B ≤ st.1 ∧ st.1 ≤ B) (hu : -B ≤ u ∧ u ≤ B) : -B ≤ (tk st u).1 ∧ (tk st u).1 ≤ B := by
  unfold tk
  split
  · exact hu
  · exact h
theorem tkf_bd {B : Int} (f : Int × Int → Int) (l : List (Int × Int)) (hf : ∀ s ∈ l, -B ≤ f s ∧ f s ≤ B) : ∀ st : Int × Bool, -B ≤ st.1 ∧ st.1 ≤ B → -B ≤ (l.foldl (fun st s => tk st (f s)) st).1 ∧ (l.foldl (fun st s => tk st (f s)) st).1 ≤ B := by
  induction l with
  | nil => intro st h; exact h
  | cons s l ih => intro st h; exact ih (fun x hx => hf x (by simp [hx])) _ (tk_bd h (hf s (by simp)))
theorem nearI_bd {B : Int} {s : Int × Int} {m : Int} (h1 : -B ≤ s.1 ∧ s.1 ≤ B) (h2 : -B ≤ s.2 ∧ s.2 ≤ B) (hm : -B ≤ m ∧ m ≤ B) : -B ≤ nearI s m ∧ nearI s m ≤ B := by
  unfold nearI
  split
  · exact h1
  · split
    · exact h2
    · exact hm
theorem makeR_rI (d : Nm) : ∀ s ∈ (makeR d).ints, (-100000000000 ≤ s.1 ∧ s.1 ≤ 100000000000) ∧ (-100000000000 ≤ s.2 ∧ s.2 ≤ 100000000000) := fun s hs => by
  have h1 := (makeR_can d).ri s hs
  have h2 := (makeR_can d).ci.1 s hs
  omega

theorem set2 {W : World} {b5 b6 : Nat} {x x' : Value} {y y' : Value} (hne : b5 ≠ b6) (h5 : W.heap[b5]? = some (.cells #[x] 2 (0, 0))) (h6 : W.heap[b6]? = some (.cells #[y] 4 (0, 0))) :
    ((W.setCell ⟨b5, 0, none⟩ x').setCell ⟨b6, 0, none⟩ y').heap[b5]? = some (.cells #[x'] 2 (0, 0)) ∧
    ((W.setCell ⟨b5, 0, none⟩ x').setCell ⟨b6, 0, none⟩ y').heap[b6]? = some (.cells #[y'] 4 (0, 0)) ∧
    (∀ n0, n0 ≤ b5 → n0 ≤ b6 → Below n0 W ((W.setCell ⟨b5, 0, none⟩ x').setCell ⟨b6, 0, none⟩ y')) ∧
    (∀ z, (W.setCell ⟨b5, 0, none⟩ z).frozen? ⟨b6, 0, none⟩ = false) := by
  have e5 : (W.setCell ⟨b5, 0, none⟩ x').heap[b5]? = some (.cells #[x'] 2 (0, 0)) := by simp [World.setCell, Array.getElem?_modify, h5]
  have e6 : (W.setCell ⟨b5, 0, none⟩ x').heap[b6]? = some (.cells #[y] 4 (0, 0)) := by simp [World.setCell, Array.getElem?_modify, h6, hne]
  refine ⟨?_, ?_, ?_, ?_⟩
  · rw [World.setCell, Array.getElem?_modify, if_neg (Ne.symm hne), e5]
  · simp [World.setCell, Array.getElem?_modify, h6, hne]
  · intro n0 h1 h2
    exact Below.setCell (Below.setCell (Below.refl n0 W) h1 _) h2 _
  · intro z
    have : (W.setCell ⟨b5, 0, none⟩ z).heap[b6]? = some (.cells #[y] 4 (0, 0)) := by simp [World.setCell, Array.getElem?_modify, h6, hne]
    simp [World.frozen?, this]

set_option maxRecDepth 100000 in
set_option maxHeartbeats 1000000 in
theorem least1_any (W : World) (u best : Int) (found : Bool) (b5 b6 n0 : Nat) (hne : b5 ≠ b6) (hn5 : n0 ≤ b5) (hn6 : n0 ≤ b6) (hu : -4000000000000000000 ≤ u ∧ u ≤ 4000000000000000000) (hb : -4000000000000000000 ≤ best ∧ best ≤ 4000000000000000000)
    (h5 : W.heap[b5]? = some (.cells #[.int .i64 best] 2 (0, 0))) (h6 : W.heap[b6]? = some (.cells #[.bool found] 4 (0, 0))) :
    Calls Try.prog 56 #[.int .i64 u, .pointer (some ⟨b6, 0, none⟩), .pointer (some ⟨b5, 0, none⟩)] W fun e w' => e = .returned (.tuple #[]) ∧
      w'.heap[b5]? = some (.cells #[.int .i64 (tk (best, found) u).1] 2 (0, 0)) ∧ w'.heap[b6]? = some (.cells #[.bool (tk (best, found) u).2] 4 (0, 0)) ∧ Below n0 W w' := by
  have c5 : W.cell? ⟨b5, 0, none⟩ = some (.int .i64 best) := by simp [World.cell?, h5]
  have c6 : W.cell? ⟨b6, 0, none⟩ = some (.bool found) := by simp [World.cell?, h6]
  have d5 : W.frozen? ⟨b5, 0, none⟩ = false := by simp [World.frozen?, h5]
  have d6 : W.frozen? ⟨b6, 0, none⟩ = false := by simp [World.frozen?, h6]
  have H5 := Lib.hid h5
  have H6 := Lib.hid h6
  clear h5 h6
  have hcon := fun W' => nearerP_any u best W' hu.1 hu.2 hb.1 hb.2
  have htk : Hid (tk (best, found) u = if !found || nearerB u best then (u, true) else (best, found)) := Lib.hid rfl
  clear hu hb
  generalize nearerB u best = nb at *
  have s2 := fun (x' y' : Value) => set2 (x' := x') (y' := y') hne H5.out H6.out
  have fz := (s2 undef undef).2.2.2
  have S2 := Lib.hid s2
  clear s2
  cases found
  · go_enter Try.func56, Try.ntmps56
    go_wp2
    refine bodyPost_end (v := .tuple #[]) (by simp [results, Try.results56, go_sem]) rfl ?_
    have htk := htk.out
    simp only [Bool.not_false, Bool.true_or, if_true] at htk
    obtain ⟨k1, k2, k3, _⟩ := S2.out (.int .i64 u) (.bool true)
    rw [htk]
    exact ⟨rfl, k1, k2, k3 n0 hn5 hn6⟩
  · cases nb
    · go_enter Try.func56, Try.ntmps56
      go_wp2_with (go_at_call 57; refine (hcon _).mono ?_; rintro e w' ⟨rfl, rfl⟩)
      refine bodyPost_end (v := .tuple #[]) (by simp [results, Try.results56, go_sem]) rfl ?_
      have htk := htk.out
      simp only [Bool.not_true, Bool.or_self, Bool.false_eq_true, if_false] at htk
      rw [htk]
      exact ⟨rfl, H5.out, H6.out, Below.refl _ _⟩
    · go_enter Try.func56, Try.ntmps56
      go_wp2_with (go_at_call 57; refine (hcon _).mono ?_; rintro e w' ⟨rfl, rfl⟩)
      refine bodyPost_end (v := .tuple #[]) (by simp [results, Try.results56, go_sem]) rfl ?_
      have htk := htk.out
      simp only [Bool.or_true, if_true] at htk
      obtain ⟨k1, k2, k3, _⟩ := S2.out (.int .i64 u) (.bool true)
      rw [htk]
      exact ⟨rfl, k1, k2, k3 n0 hn5 hn6⟩

set_option maxRecDepth 100000 in
set_option maxHeartbeats 1000000 in
theorem leastP_any (w : World) (v0 : Value) (d : Nm) (h0 : NmAt w v0 d) (hs : Sz 1000000 d) (hr : InR d.fracs) :
    Calls Try.prog 20 #[v0] w fun e w' => e = .returned (.tuple #[.int .i64 (leastP d).1, .bool (leastP d).2]) ∧ Ext w w' := by
  have g0 := h0
  obtain ⟨A0, c0, B0, e0, rfl, x0, y0⟩ := g0
  have b0 : BlkN (w.alloc (.cells #[.slice A0 d.ints.length c0, .slice B0 d.fracs.length e0] 24)) w.heap.size (.slice A0 d.ints.length c0) (.slice B0 d.fracs.length e0) := by simpa using BlkN.new w (.slice A0 d.ints.length c0) (.slice B0 d.fracs.length e0)
  have hEW : Ext w (w.alloc (.cells #[.slice A0 d.ints.length c0, .slice B0 d.fracs.length e0] 24)) := (Ext.refl w).alloc _
  have k0 := h0.ext hEW
  have f0a := fun w' (h : Ext (w.alloc (.cells #[.slice A0 d.ints.length c0, .slice B0 d.fracs.length e0] 24)) w') => (b0.ext h).cell0
  have f0b := fun w' (h : Ext (w.alloc (.cells #[.slice A0 d.ints.length c0, .slice B0 d.fracs.length e0] 24)) w') => (b0.ext h).cell1
  have K0 := Lib.hid k0
  have si0 : SpAt (w.alloc (.cells #[.slice A0 d.ints.length c0, .slice B0 d.fracs.length e0] 24)) (.slice A0 d.ints.length c0) d.ints := ⟨A0, c0, rfl, x0.ext hEW⟩
  have sf0 : SpAt (w.alloc (.cells #[.slice A0 d.ints.length c0, .slice B0 d.fracs.length e0] 24)) (.slice B0 d.fracs.length e0) d.fracs := ⟨B0, e0, rfl, y0.ext hEW⟩
  have SI0 := Lib.hid si0
  have SF0 := Lib.hid sf0
  clear si0 sf0
  have HE := Lib.hid hEW
  clear hEW b0 h0 k0 x0 y0
  go_enter Try.func20, Try.ntmps20
  go_wp2_with fail
  refine (makeP_any _ _ d K0.out (hs.mono (by omega)) hr).mono ?_
  rintro e w1 ⟨r, rfl, ⟨A8, c8, B8, e8, rfl, i8, f8⟩, hE1⟩
  have szm := makeR_sz hs
  have bdi := makeR_rI d
  have bdf := makeR_bddF d
  have HD : Hid (leastP d = (makeR d).fracs.foldl (fun st s => tk st (nearI s 1)) ((makeR d).ints.foldl (fun st s => tk st (nearI s 0 * 10000)) (0, false))) := Lib.hid rfl
  have HE1 := Lib.hid (HE.out.trans hE1)
  clear hE1 f0a f0b SI0 SF0 K0 HE
  generalize makeR d = m at *
  obtain ⟨l, l'⟩ := m
  simp only at *
  obtain ⟨sz1, sz2⟩ := szm
  simp only at sz1 sz2
  have b3 := BlkN.new w1 (.slice A8 l.length c8) (.slice B8 l'.length e8)
  have hi8 := i8.ext ((Ext.refl w1).alloc (.cells #[.slice A8 l.length c8, .slice B8 l'.length e8] 24))
  have hf8 := f8.ext ((Ext.refl w1).alloc (.cells #[.slice A8 l.length c8, .slice B8 l'.length e8] 24))
  have hEW := (HE1.out).alloc (.cells #[.slice A8 l.length c8, .slice B8 l'.length e8] 24)
  go_wp2_with fail
  generalize hWn : w1.alloc (.cells #[.slice A8 l.length c8, .slice B8 l'.length e8] 24) = Wn at *
  have hsz : Wn.heap.size = w1.heap.size + 1 := by rw [← hWn]; simp
  clear hWn i8 f8
  have HB3 := Lib.hid b3
  have HEW := Lib.hid hEW
  clear b3 hEW HE1
  rw [← hsz]
  have HSZ := Lib.hid hsz
  clear hsz
  obtain ⟨Wb, hWb⟩ : ∃ Wb, Wb = (Wn.alloc (.cells #[.int .i64 0] 2)).alloc (.cells #[.bool false] 4) := ⟨_, rfl⟩
  have g5 : Wb.heap[Wn.heap.size]? = some (.cells #[.int .i64 0] 2 (0, 0)) := by rw [hWb]; exact (Below.heap_alloc _ _ _ (by simp)).trans (heap_alloc_new Wn _)
  have g6 : Wb.heap[Wn.heap.size + 1]? = some (.cells #[.bool false] 4 (0, 0)) := by rw [hWb]; simpa using heap_alloc_new (Wn.alloc (.cells #[.int .i64 0] 2)) (.cells #[.bool false] 4)
  have gE : Ext Wn Wb := by rw [hWb]; exact ((Ext.refl Wn).alloc _).alloc _
  rw [← hWb]
  have G5 := Lib.hid g5
  have G6 := Lib.hid g6
  have GE := Lib.hid gE
  clear hWb g5 g6 gE
  go_loopw [9, 18] (fun _ i wr => ∃ (k : Nat) (st : Int × Bool), k ≤ l.length ∧ i = .int .i64 k ∧ Hid ((l.take k).foldl (fun st s => tk st (nearI s 0 * 10000)) (0, false) = st) ∧ Hid (wr.heap[Wn.heap.size]? = some (.cells #[.int .i64 st.1] 2 (0, 0))) ∧ Hid (wr.heap[Wn.heap.size + 1]? = some (.cells #[.bool st.2] 4 (0, 0))) ∧ Ext Wn wr) (fun _ i _ => l.length - (intOf i).toNat)
  case atStart => exact ⟨0, (0, false), Nat.zero_le _, rfl, rfl, G5, G6, GE.out⟩
  case round =>
    obtain ⟨k, st, hk, rfl, Hst, H5, H6, hE⟩ := hrel
    by_cases hlt : k < l.length
    · have hstep : Hid ((l.take (k + 1)).foldl (fun st s => tk st (nearI s 0 * 10000)) (0, false) = tk st (nearI l[k] 0 * 10000)) := Lib.hid (by rw [foldl_take (fun st s => tk st (nearI s 0 * 10000)) _ l k hlt, Hst.out])
      have hs := bdi l[k] (List.getElem_mem hlt)
      have hbst : Hid (-1000000000000000 ≤ st.1 ∧ st.1 ≤ 1000000000000000) := Lib.hid (by
        have := tkf_bd (B := 1000000000000000) (fun s => nearI s 0 * 10000) (l.take k) (fun s hs => by
          have := bdi s (List.mem_of_mem_take hs)
          have := nearI_bd (B := 100000000000) (m := 0) this.1 this.2 (by omega)
          omega) (0, false) (by simp only; omega)
        rw [Hst.out] at this
        exact this)
      obtain ⟨b, off, rfl, hbB, hc0, hc1⟩ := hi8.at_ hlt
      have hd0 := (hE.cell ⟨b, off + k * 2, none⟩ hbB).trans hc0
      have hd1 := (hE.cell ⟨b, off + k * 2 + 1, none⟩ hbB).trans hc1
      clear hc0 hc1 hi8
      generalize l[k] = s at *
      obtain ⟨lo, hi⟩ := s
      have hx := nearI_bd (B := 100000000000) (s := (lo, hi)) (m := 0) hs.1 hs.2 (by omega)
      simp only at hd0 hd1
      clear hs
      have hnd : Hid (nearI (lo, hi) 0 = if 0 < lo then lo else if hi < 0 then hi else 0) := Lib.hid rfl
      generalize nearI (lo, hi) 0 = x at *
      have HC := Lib.hid hE.size
      go_wp2_with fail
      refine (nearest_any _ _ _ _).mono ?_
      rintro e w2 ⟨rfl, hE2⟩
      rw [← hnd.out]
      have hEr : Ext wr w2 := ((Ext.refl wr).alloc _).trans hE2
      have k5 : w2.heap[Wn.heap.size]? = some (.cells #[.int .i64 st.1] 2 (0, 0)) := by
        have hh := H5.out
        exact (hEr.block _ (Array.getElem?_eq_some_iff.1 hh).1).trans hh
      have k6 : w2.heap[Wn.heap.size + 1]? = some (.cells #[.bool st.2] 4 (0, 0)) := by
        have hh := H6.out
        exact (hEr.block _ (Array.getElem?_eq_some_iff.1 hh).1).trans hh
      have K5 := Lib.hid k5
      have K6 := Lib.hid k6
      have HE2 := Lib.hid (hE.trans hEr)
      clear k5 k6 hEr hE2 hd0 hd1
      go_wp2_with fail
      have hbs := hbst.out
      refine (least1_any w2 (x * 10000) st.1 st.2 Wn.heap.size (Wn.heap.size + 1) Wn.heap.size (by omega) (by omega) (by omega) (by omega) (by omega) K5.out K6.out).mono ?_
      rintro e w3 ⟨rfl, k5, k6, hB3⟩
      have hE3 : Ext Wn w3 := HE2.out.trans' hB3
      have K5 := Lib.hid k5
      have K6 := Lib.hid k6
      clear k5 k6 hB3
      go_wp2
      go_roundw
      case rel => exact ⟨k + 1, tk st (x * 10000), by omega, by go_num, hstep, K5, K6, hE3⟩
      case measure => simp [intOf]; omega
    · have hkl : k = l.length := by omega
      subst hkl
      have hx2 := Hst.out
      rw [List.take_of_length_le (Nat.le_refl _)] at hx2
      have HX := Lib.hid hx2
      have hb0 : Hid (-1000000000000000 ≤ st.1 ∧ st.1 ≤ 1000000000000000) := Lib.hid (by
        have := tkf_bd (B := 1000000000000000) (fun s => nearI s 0 * 10000) l (fun s hs => by
          have := bdi s hs
          have := nearI_bd (B := 100000000000) (m := 0) this.1 this.2 (by omega)
          omega) (0, false) (by simp only; omega)
        rw [hx2] at this
        exact this)
      have hq0 := (HB3.out.ext hE).cell0
      have hq1 := (HB3.out.ext hE).cell1
      obtain ⟨wo, rfl⟩ : ∃ wo : World, wo = wr := ⟨_, rfl⟩
      clear hx2 hi8 hlt hk Hst bdi
      go_wp2_with fail
      obtain ⟨st0, rfl⟩ : ∃ st0 : Int × Bool, st0 = st := ⟨_, rfl⟩
      go_loopw [11, 31] (fun _ i wr => ∃ (k : Nat) (st : Int × Bool), k ≤ l'.length ∧ i = .int .i64 k ∧ Hid ((l'.take k).foldl (fun st s => tk st (nearI s 1)) st0 = st) ∧ Hid (wr.heap[Wn.heap.size]? = some (.cells #[.int .i64 st.1] 2 (0, 0))) ∧ Hid (wr.heap[Wn.heap.size + 1]? = some (.cells #[.bool st.2] 4 (0, 0))) ∧ Ext Wn wr) (fun _ i _ => l'.length - (intOf i).toNat)
      case atStart => exact ⟨0, st0, Nat.zero_le _, rfl, rfl, H5, H6, hE⟩
      case round =>
        obtain ⟨k, st, hk, rfl, Hst, H5, H6, hE⟩ := hrel
        by_cases hlt : k < l'.length
        · have hstep : Hid ((l'.take (k + 1)).foldl (fun st s => tk st (nearI s 1)) st0 = tk st (nearI l'[k] 1)) := Lib.hid (by rw [foldl_take (fun st s => tk st (nearI s 1)) _ l' k hlt, Hst.out])
          have hs := bdf l'[k] (List.getElem_mem hlt)
          have hbst : Hid (-2000000000000000 ≤ st.1 ∧ st.1 ≤ 2000000000000000) := Lib.hid (by
            have := tkf_bd (B := 2000000000000000) (fun s => nearI s 1) (l'.take k) (fun s hs => by
              have := bdf s (List.mem_of_mem_take hs)
              have := nearI_bd (B := 2000000000000000) (s := s) (m := 1) (by omega) (by omega) (by omega)
              omega) st0 (by have := hb0.out; omega)
            rw [Hst.out] at this
            exact this)
          obtain ⟨b, off, rfl, hbB, hc0, hc1⟩ := hf8.at_ hlt
          have hd0 := (hE.cell ⟨b, off + k * 2, none⟩ hbB).trans hc0
          have hd1 := (hE.cell ⟨b, off + k * 2 + 1, none⟩ hbB).trans hc1
          clear hc0 hc1 hf8
          generalize l'[k] = s at *
          obtain ⟨lo, hi⟩ := s
          have hx := nearI_bd (B := 2000000000000000) (s := (lo, hi)) (m := 1) (by simp only; omega) (by simp only; omega) (by omega)
          simp only at hd0 hd1
          clear hs
          have hnd : Hid (nearI (lo, hi) 1 = if 0 < lo then lo else if hi < 0 then hi else 1) := Lib.hid rfl
          generalize nearI (lo, hi) 1 = x at *
          have HC := Lib.hid hE.size
          go_wp2_with fail
          refine (nearest_any _ _ _ _).mono ?_
          rintro e w2 ⟨rfl, hE2⟩
          rw [← hnd.out]
          have hEr : Ext wr w2 := ((Ext.refl wr).alloc _).trans hE2
          have k5 : w2.heap[Wn.heap.size]? = some (.cells #[.int .i64 st.1] 2 (0, 0)) := by
            have hh := H5.out
            exact (hEr.block _ (Array.getElem?_eq_some_iff.1 hh).1).trans hh
          have k6 : w2.heap[Wn.heap.size + 1]? = some (.cells #[.bool st.2] 4 (0, 0)) := by
            have hh := H6.out
            exact (hEr.block _ (Array.getElem?_eq_some_iff.1 hh).1).trans hh
          have K5 := Lib.hid k5
          have K6 := Lib.hid k6
          have HE2 := Lib.hid (hE.trans hEr)
          clear k5 k6 hEr hE2 hd0 hd1
          go_wp2_with fail
          have hbs := hbst.out
          refine (least1_any w2 (x) st.1 st.2 Wn.heap.size (Wn.heap.size + 1) Wn.heap.size (by omega) (by omega) (by omega) (by omega) (by omega) K5.out K6.out).mono ?_
          rintro e w3 ⟨rfl, k5, k6, hB3⟩
          have hE3 : Ext Wn w3 := HE2.out.trans' hB3
          have K5 := Lib.hid k5
          have K6 := Lib.hid k6
          clear k5 k6 hB3
          go_wp2
          go_roundw
          case rel => exact ⟨k + 1, tk st (x), by omega, by go_num, hstep, K5, K6, hE3⟩
          case measure => simp [intOf]; omega
        · have hkl : k = l'.length := by omega
          subst hkl
          have hy2 := Hst.out
          rw [List.take_of_length_le (Nat.le_refl _)] at hy2
          have z5 : wr.cell? ⟨Wn.heap.size, 0, none⟩ = some (.int .i64 st.1) := by have hh := H5.out; simp [World.cell?, hh]
          have z6 : wr.cell? ⟨Wn.heap.size + 1, 0, none⟩ = some (.bool st.2) := by have hh := H6.out; simp [World.cell?, hh]
          have HY := Lib.hid hy2
          have HEE := Lib.hid hE
          clear hy2 hE
          go_wp2_with fail
          go_quiet (fail)
          go_wp2
          refine bodyPost_ret (results_tmp2 rfl _ _ _) rfl ⟨?_, ?_⟩
          · have e : leastP d = st := by rw [HD.out, HX.out]; exact HY.out
            rw [e]
            simp
          · exact (HEW.out.trans HEE.out).drewN _

end Go.Proofs.Ytaianhhmmacblaa
