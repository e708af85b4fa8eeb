import Derived.Test.YtpgkdhhlcpgjcaaGreatDoorAppSeqO
/-
  Collect over the iterator of gaps: the row is the call's own.
-/
namespace Go.Proofs.YtpgkdhhlcpgjcaaGreatDoor
open Go.RowKit Go.Shelf

set_option maxRecDepth 100000 in
set_option maxHeartbeats 1000000 in
theorem collect_wholeO (w : World) (b4 b5 b6 b7 : Nat) (A : Option Addr) (c : Nat) (l : List Sp) (lo hi : Int) (hls : l.length ≤ 1000000) (hbd : Bdd l) (hlo : -2000000000000000 ≤ lo ∧ lo ≤ 2000000000000000)
    (q4 : b4 < w.heap.size) (q5 : b5 < w.heap.size) (q6 : b6 < w.heap.size) (q7 : b7 < w.heap.size)
    (h2 : w.cell? ⟨b4, 0, none⟩ = some (.slice A l.length c)) (h3 : w.cell? ⟨b5, 0, none⟩ = some (.int .i64 lo)) (h4 : w.cell? ⟨b5, 1, none⟩ = some (.int .i64 hi))
    (h5 : w.cell? ⟨b6, 0, none⟩ = some (.func (.func 106) #[] #[])) (h6 : w.cell? ⟨b7, 0, none⟩ = some (.func (.func 173) #[] #[])) (h7 : SlAt w w.heap.size A l) :
    Calls Tryz.prog 171 #[.func (.func 203) #[] #[.pointer (some ⟨b5, 0, none⟩), .pointer (some ⟨b4, 0, none⟩), .pointer (some ⟨b7, 0, none⟩), .pointer (some ⟨b6, 0, none⟩)]] w
      fun e w' => ∃ r, e = .returned r ∧ (Own w' w.heap.size r (pgaps (fun u => u + 1) (fun u => u - 1) l lo hi) ∧ (pgaps (fun u => u + 1) (fun u => u - 1) l lo hi = [] → r = .slice none 0 0)) ∧ Ext w w' := by
  have hcon := appendSeq_own w b4 b5 b6 b7 (l.length + 1) (by omega) (pgaps (fun u => u + 1) (fun u => u - 1) l lo hi) (fun n hn lp J Jx W hW hJ _ hY h0 => by
    have hWw : Below w.heap.size w W := Below.trans ((Ext.refl w).alloc _) (hW.mono (by simp))
    have hsz := hW.size
    simp at hsz
    have hbox : W.cell? ⟨w.heap.size, 0, none⟩ = some (.slice none 0 0) := (hW.cell (p := ⟨w.heap.size, 0, none⟩) (by simp)).trans (by simp)
    exact gaps1_whole n hn lp w.heap.size w.heap.size b4 b5 b6 b7 A c l lo hi hls hbd hlo q4 q5 q6 q7 J Jx hY W hJ (by omega) (by omega)
      (fun k ⟨n', c', e⟩ => by rw [hbox] at e; cases e)
      ((hWw.cell (p := ⟨b4, 0, none⟩) q4).trans h2) ((hWw.cell (p := ⟨b5, 0, none⟩) q5).trans h3) ((hWw.cell (p := ⟨b5, 1, none⟩) q5).trans h4)
      ((hWw.cell (p := ⟨b6, 0, none⟩) q6).trans h5) ((hWw.cell (p := ⟨b7, 0, none⟩) q7).trans h6) (h7.below hWw) h0)
  have HC := Lib.hid hcon
  clear hcon h2 h3 h4 h5 h6 h7
  go_enter Tryz.func171, Tryz.ntmps171
  go_wp2_with fail
  refine HC.out.mono ?_
  rintro e w1 ⟨r, rfl, hr, hE1⟩
  have HR := Lib.hid hr
  clear hr
  go_wp2
  go_ret
  exact ⟨_, rfl, HR.out, hE1⟩

set_option maxRecDepth 100000 in
set_option maxHeartbeats 1000000 in
theorem collect_afterO (w : World) (b4 b5 b6 b7 : Nat) (A : Option Addr) (c : Nat) (l : List Sp) (lo hi : Int) (hls : l.length ≤ 1000000) (hbd : Bdd l) (hlo : -2000000000000000 ≤ lo ∧ lo ≤ 2000000000000000)
    (q4 : b4 < w.heap.size) (q5 : b5 < w.heap.size) (q6 : b6 < w.heap.size) (q7 : b7 < w.heap.size)
    (h2 : w.cell? ⟨b4, 0, none⟩ = some (.slice A l.length c)) (h3 : w.cell? ⟨b5, 0, none⟩ = some (.int .i64 lo)) (h4 : w.cell? ⟨b5, 1, none⟩ = some (.int .i64 hi))
    (h5 : w.cell? ⟨b6, 0, none⟩ = some (.func (.func 107) #[] #[])) (h6 : w.cell? ⟨b7, 0, none⟩ = some (.func (.func 174) #[] #[])) (h7 : SlAt w w.heap.size A l) :
    Calls Tryz.prog 171 #[.func (.func 203) #[] #[.pointer (some ⟨b5, 0, none⟩), .pointer (some ⟨b4, 0, none⟩), .pointer (some ⟨b7, 0, none⟩), .pointer (some ⟨b6, 0, none⟩)]] w
      fun e w' => ∃ r, e = .returned r ∧ (Own w' w.heap.size r (pgaps afterI beforeI l lo hi) ∧ (pgaps afterI beforeI l lo hi = [] → r = .slice none 0 0)) ∧ Ext w w' := by
  have hcon := appendSeq_own w b4 b5 b6 b7 (l.length + 1) (by omega) (pgaps afterI beforeI l lo hi) (fun n hn lp J Jx W hW hJ _ hY h0 => by
    have hWw : Below w.heap.size w W := Below.trans ((Ext.refl w).alloc _) (hW.mono (by simp))
    have hsz := hW.size
    simp at hsz
    have hbox : W.cell? ⟨w.heap.size, 0, none⟩ = some (.slice none 0 0) := (hW.cell (p := ⟨w.heap.size, 0, none⟩) (by simp)).trans (by simp)
    exact gaps1_after n hn lp w.heap.size w.heap.size b4 b5 b6 b7 A c l lo hi hls hbd hlo q4 q5 q6 q7 J Jx hY W hJ (by omega) (by omega)
      (fun k ⟨n', c', e⟩ => by rw [hbox] at e; cases e)
      ((hWw.cell (p := ⟨b4, 0, none⟩) q4).trans h2) ((hWw.cell (p := ⟨b5, 0, none⟩) q5).trans h3) ((hWw.cell (p := ⟨b5, 1, none⟩) q5).trans h4)
      ((hWw.cell (p := ⟨b6, 0, none⟩) q6).trans h5) ((hWw.cell (p := ⟨b7, 0, none⟩) q7).trans h6) (h7.below hWw) h0)
  have HC := Lib.hid hcon
  clear hcon h2 h3 h4 h5 h6 h7
  go_enter Tryz.func171, Tryz.ntmps171
  go_wp2_with fail
  refine HC.out.mono ?_
  rintro e w1 ⟨r, rfl, hr, hE1⟩
  have HR := Lib.hid hr
  clear hr
  go_wp2
  go_ret
  exact ⟨_, rfl, HR.out, hE1⟩

end Go.Proofs.YtpgkdhhlcpgjcaaGreatDoor
