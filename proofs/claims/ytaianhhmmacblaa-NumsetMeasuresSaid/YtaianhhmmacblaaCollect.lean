import Derived.Test.YtaianhhmmacblaaAppSeq
/-
  gaps and Collect.
-/
namespace Go.Proofs.Ytaianhhmmacblaa
open Go.RowKit Go.Shelf

/-- the iterator that gaps hands back -/
def GapV (nf pf : Nat) (l : List Sp) (lo hi : Int) : Spec := fun v w => ∃ b A c, v = .func (.func 83) #[] #[.pointer (some ⟨b + 1, 0, none⟩), .pointer (some ⟨b, 0, none⟩), .pointer (some ⟨b + 3, 0, none⟩), .pointer (some ⟨b + 2, 0, none⟩)] ∧
  b + 3 < w.heap.size ∧ w.cell? ⟨b, 0, none⟩ = some (.slice A l.length c) ∧ w.cell? ⟨b + 1, 0, none⟩ = some (.int .i64 lo) ∧ w.cell? ⟨b + 1, 1, none⟩ = some (.int .i64 hi) ∧
  w.cell? ⟨b + 2, 0, none⟩ = some (.func (.func nf) #[] #[]) ∧ w.cell? ⟨b + 3, 0, none⟩ = some (.func (.func pf) #[] #[]) ∧ SlAt w w.heap.size A l
theorem GapV.stable (nf pf : Nat) (l : List Sp) (lo hi : Int) : ∀ v w w', GapV nf pf l lo hi v w → Ext w w' → GapV nf pf l lo hi v w' := fun _ w w' ⟨b, A, c, e, h1, h2, h3, h4, h5, h6, h7⟩ hE =>
  ⟨b, A, c, e, Nat.lt_of_lt_of_le h1 hE.size, (hE.cell ⟨b, 0, none⟩ (by simp only; omega)).trans h2, (hE.cell ⟨b + 1, 0, none⟩ (by simp only; omega)).trans h3, (hE.cell ⟨b + 1, 1, none⟩ (by simp only; omega)).trans h4,
    (hE.cell ⟨b + 2, 0, none⟩ (by simp only; omega)).trans h5, (hE.cell ⟨b + 3, 0, none⟩ (by simp only; omega)).trans h6, h7.ext hE⟩

set_option maxRecDepth 100000 in
set_option maxHeartbeats 1000000 in
theorem gaps_any (w : World) (nf pf : Nat) (v : Value) (l : List Sp) (lo hi : Int) (h : SpAt w v l) :
    Calls Try.prog 64 #[v, .agg #[.int .i64 lo, .int .i64 hi], .func (.func nf) #[] #[], .func (.func pf) #[] #[]] w fun e w' => ∃ r, e = .returned r ∧ GapV nf pf l lo hi r w' ∧ Ext w w' := by
  obtain ⟨A, c, rfl, hA⟩ := h
  have HA := Lib.hid hA
  clear hA
  go_enter Try.func64, Try.ntmps64
  go_wp2
  go_ret
  refine ⟨_, rfl, ⟨w.heap.size, A, c, rfl, ?_, ?_, ?_, ?_, ?_, ?_, ?_⟩, ?_⟩
  · simp
  · rw [World.cell?_alloc_lt _ _ _ (by simp; try omega), World.cell?_alloc_lt _ _ _ (by simp; try omega), World.cell?_alloc_lt _ _ _ (by simp; try omega)]
    have := heap_alloc_new w (.cells #[.slice A l.length c] 22)
    simp only [World.cell?, this]
    simp
  · rw [World.cell?_alloc_lt _ _ _ (by simp; try omega), World.cell?_alloc_lt _ _ _ (by simp; try omega)]; simp
  · rw [World.cell?_alloc_lt _ _ _ (by simp; try omega), World.cell?_alloc_lt _ _ _ (by simp; try omega)]; simp
  · rw [World.cell?_alloc_lt _ _ _ (by simp; try omega)]
    have := heap_alloc_new ((w.alloc (.cells #[.slice A l.length c] 22)).alloc (.cells #[.int .i64 lo, .int .i64 hi] 45))
    simp at this
    simp [World.cell?, this]
  · have := heap_alloc_new (((w.alloc (.cells #[.slice A l.length c] 22)).alloc (.cells #[.int .i64 lo, .int .i64 hi] 45)).alloc (.cells #[.func (.func nf) #[] #[]] 49))
    simp at this
    simp [World.cell?, this]
  · exact HA.out.ext (((((Ext.refl w).alloc _).alloc _).alloc _).alloc _)
  · exact ((((Ext.refl w).alloc _).alloc _).alloc _).alloc _

set_option maxRecDepth 100000 in
set_option maxHeartbeats 1000000 in
theorem collect_whole (w : World) (v : Value) (l : List Sp) (lo hi : Int) (hls : l.length ≤ 1000000) (hbd : Bdd l) (hlo : -2000000000000000 ≤ lo ∧ lo ≤ 2000000000000000) (h : GapV 65 66 l lo hi v w) :
    Calls Try.prog 63 #[v] w fun e w' => ∃ r, e = .returned r ∧ SpAt w' r (pgaps (fun u => u + 1) (fun u => u - 1) l lo hi) ∧ Ext w w' := by
  obtain ⟨b, A, c, rfl, h1, h2, h3, h4, h5, h6, h7⟩ := h
  have hcon := appendSeq_any w b (b + 1) (b + 2) (b + 3) (l.length + 1) (by omega) (pgaps (fun u => u + 1) (fun u => u - 1) l lo hi) (fun n hn lp J Jx W hW hJ _ hY h0 => by
    have hWw : Below w.heap.size w W := Below.trans ((Ext.refl w).alloc _) (hW.mono (by simp))
    have hsz := hW.size
    simp at hsz
    have hbox : W.cell? ⟨w.heap.size, 0, none⟩ = some (.slice none 0 0) := (hW.cell (p := ⟨w.heap.size, 0, none⟩) (by simp)).trans (by simp)
    exact gaps1_whole n hn lp w.heap.size w.heap.size b (b + 1) (b + 2) (b + 3) A c l lo hi hls hbd hlo (by omega) (by omega) (by omega) (by omega) J Jx hY W hJ (by omega) (by omega)
      (fun k ⟨n', c', e⟩ => by rw [hbox] at e; cases e)
      ((hWw.cell (p := ⟨b, 0, none⟩) (by simp only; omega)).trans h2) ((hWw.cell (p := ⟨b + 1, 0, none⟩) (by simp only; omega)).trans h3) ((hWw.cell (p := ⟨b + 1, 1, none⟩) (by simp only; omega)).trans h4)
      ((hWw.cell (p := ⟨b + 2, 0, none⟩) (by simp only; omega)).trans h5) ((hWw.cell (p := ⟨b + 3, 0, none⟩) (by simp only; omega)).trans h6) (h7.below hWw) h0)
  have HC := Lib.hid hcon
  clear hcon h2 h3 h4 h5 h6 h7
  go_enter Try.func63, Try.ntmps63
  go_wp2_with fail
  refine HC.out.mono ?_
  rintro e w1 ⟨r, rfl, hr, hE1⟩
  have HR := Lib.hid hr
  clear hr
  go_wp2
  go_ret
  exact ⟨_, rfl, HR.out, hE1⟩

set_option maxRecDepth 100000 in
set_option maxHeartbeats 1000000 in
theorem collect_after (w : World) (v : Value) (l : List Sp) (lo hi : Int) (hls : l.length ≤ 1000000) (hbd : Bdd l) (hlo : -2000000000000000 ≤ lo ∧ lo ≤ 2000000000000000) (h : GapV 67 68 l lo hi v w) :
    Calls Try.prog 63 #[v] w fun e w' => ∃ r, e = .returned r ∧ SpAt w' r (pgaps afterI beforeI l lo hi) ∧ Ext w w' := by
  obtain ⟨b, A, c, rfl, h1, h2, h3, h4, h5, h6, h7⟩ := h
  have hcon := appendSeq_any w b (b + 1) (b + 2) (b + 3) (l.length + 1) (by omega) (pgaps afterI beforeI l lo hi) (fun n hn lp J Jx W hW hJ _ hY h0 => by
    have hWw : Below w.heap.size w W := Below.trans ((Ext.refl w).alloc _) (hW.mono (by simp))
    have hsz := hW.size
    simp at hsz
    have hbox : W.cell? ⟨w.heap.size, 0, none⟩ = some (.slice none 0 0) := (hW.cell (p := ⟨w.heap.size, 0, none⟩) (by simp)).trans (by simp)
    exact gaps1_after n hn lp w.heap.size w.heap.size b (b + 1) (b + 2) (b + 3) A c l lo hi hls hbd hlo (by omega) (by omega) (by omega) (by omega) J Jx hY W hJ (by omega) (by omega)
      (fun k ⟨n', c', e⟩ => by rw [hbox] at e; cases e)
      ((hWw.cell (p := ⟨b, 0, none⟩) (by simp only; omega)).trans h2) ((hWw.cell (p := ⟨b + 1, 0, none⟩) (by simp only; omega)).trans h3) ((hWw.cell (p := ⟨b + 1, 1, none⟩) (by simp only; omega)).trans h4)
      ((hWw.cell (p := ⟨b + 2, 0, none⟩) (by simp only; omega)).trans h5) ((hWw.cell (p := ⟨b + 3, 0, none⟩) (by simp only; omega)).trans h6) (h7.below hWw) h0)
  have HC := Lib.hid hcon
  clear hcon h2 h3 h4 h5 h6 h7
  go_enter Try.func63, Try.ntmps63
  go_wp2_with fail
  refine HC.out.mono ?_
  rintro e w1 ⟨r, rfl, hr, hE1⟩
  have HR := Lib.hid hr
  clear hr
  go_wp2
  go_ret
  exact ⟨_, rfl, HR.out, hE1⟩

end Go.Proofs.Ytaianhhmmacblaa
