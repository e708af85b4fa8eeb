import Derived.RangeFuncNested
import Derived.RangeFuncBound
import Derived.RangeFuncCalls
import Derived.RangeFuncLeaves
import Derived.Shelf.Abstract
import Derived.Shelf.RegionOpen
import Derived.WalkKit
import Derived.OwnWalkIn
import Derived.TacticsInMore
import Derived.LoopNIn
import Derived.LoopIn
import Derived.Test.YtpgkdhhlcpgjcaaGreatDoorOwn
import Derived.Test.YtpgkdhhlcpgjcaaGreatDoorLeafO
import Derived.Test.YtpgkdhhlcpgjcaaGreatDoorMath0
/-
  The program's gaps: the iterator.
-/
namespace Go.Proofs.YtpgkdhhlcpgjcaaGreatDoor
open Go.RowKit Go.Shelf
attribute [local go_sem] Oper.semAt_some

/-- the slice in the box Bs lies in block k -/
def RowOf (Bs : Nat) (W : World) (k : Nat) : Prop := ∃ n c, W.cell? ⟨Bs, 0, none⟩ = some (.slice (some ⟨k, 0, none⟩) n c)
def RB (Bs : Nat) (W : World) : Prop := ∀ k, RowOf Bs W k → k < W.heap.size
/-- what a round keeps: all but the box Bs and the row that its slice lies in -/
structure KpB (Bs n₀ : Nat) (W W' : World) : Prop where
  below : Below n₀ W W'
  same : ∀ k o, W.heap[k]? = some o → o.isCells = true → k ≠ Bs → ¬ RowOf Bs W k → W'.heap[k]? = some o
  row : ∀ k, RowOf Bs W' k → RowOf Bs W k ∨ W.heap.size ≤ k
  rb : RB Bs W → RB Bs W'
theorem KpB.refl (Bs n₀ : Nat) (W : World) : KpB Bs n₀ W W := ⟨Below.refl _ _, fun _ _ h _ _ _ => h, fun _ h => .inl h, fun h => h⟩
theorem KpB.trans {Bs n₀ : Nat} {A B C : World} (h : KpB Bs n₀ A B) (k : KpB Bs n₀ B C) : KpB Bs n₀ A C where
  below := h.below.trans k.below
  same j o hj ho hne hr := by
    refine k.same j o (h.same j o hj ho hne hr) ho hne (fun hb => ?_)
    have hlt := (Array.getElem?_eq_some_iff.1 hj).1
    rcases h.row j hb with h2 | h2
    · exact hr h2
    · omega
  row j hj := by
    rcases k.row j hj with h1 | h1
    · exact h.row j h1
    · exact .inr (Nat.le_trans h.below.size h1)
  rb hA := k.rb (h.rb hA)
theorem KpB.alloc {Bs n₀ : Nat} {A B : World} (h : KpB Bs n₀ A B) (hB : Bs < B.heap.size) (hn : n₀ ≤ B.heap.size) (o : Obj) : KpB Bs n₀ A (B.alloc o) := by
  have hc : (B.alloc o).cell? ⟨Bs, 0, none⟩ = B.cell? ⟨Bs, 0, none⟩ := World.cell?_alloc_lt B o _ hB
  have hr : ∀ k, RowOf Bs (B.alloc o) k ↔ RowOf Bs B k := fun k => by unfold RowOf; rw [hc]
  refine ⟨h.below.alloc hn o, fun k x hk hx hne hno => ?_, fun k hk => h.row k ((hr k).1 hk), fun hA k hk => ?_⟩
  · have h1 := h.same k x hk hx hne hno
    exact (Below.heap_alloc B o k (Array.getElem?_eq_some_iff.1 h1).1).trans h1
  · have := h.rb hA k ((hr k).1 hk)
    simp
    omega

set_option maxRecDepth 100000 in
set_option maxHeartbeats 2000000 in
theorem gaps1_whole (n : Nat) (hn : 1 ≤ n) (l Bs n₀ b4 b5 b6 b7 : Nat) (A : Option Addr) (c : Nat) (ls : List Sp) (lo hi : Int) (hls : ls.length ≤ 1000000) (hbd : Bdd ls)
    (hlo : -2000000000000000 ≤ lo ∧ lo ≤ 2000000000000000)
    (h4 : b4 < n₀) (h5 : b5 < n₀) (h6 : b6 < n₀) (h7 : b7 < n₀) (J Jx : List Sp → World → Prop)
    (hY : ∀ pre x W, J pre W → pre.length < ls.length + 1 → YieldAt Fence.wide (n - 1) Tryz.prog l #[.agg #[.int .i64 x.1, .int .i64 x.2]] W fun e W' =>
      (e = .returned (.bool true) ∧ J (pre ++ [x]) W' ∧ KpB Bs n₀ W W') ∨ (e = .returned (.bool false) ∧ Jx (pre ++ [x]) W'))
    (W : World) (hJ : AbidesFrom W.heap.size J) (hn₀ : n₀ ≤ W.heap.size) (hBs : Bs < W.heap.size) (hrb : RB Bs W)
    (c4 : W.cell? ⟨b4, 0, none⟩ = some (.slice A ls.length c)) (c50 : W.cell? ⟨b5, 0, none⟩ = some (.int .i64 lo)) (c51 : W.cell? ⟨b5, 1, none⟩ = some (.int .i64 hi))
    (c6 : W.cell? ⟨b6, 0, none⟩ = some (.func (.func 106) #[] #[])) (c7 : W.cell? ⟨b7, 0, none⟩ = some (.func (.func 173) #[] #[]))
    (hA : SlAt W n₀ A ls) (h0 : J [] W) :
    CallsIn Fence.wide n Tryz.prog 203 #[.func (.yield l) #[] #[], .pointer (some ⟨b5, 0, none⟩), .pointer (some ⟨b4, 0, none⟩), .pointer (some ⟨b7, 0, none⟩), .pointer (some ⟨b6, 0, none⟩)] W fun e W' => (∃ v, e = .returned v) ∧
      ((∃ ys, ys = pgaps (fun u => u + 1) (fun u => u - 1) ls lo hi ∧ J ys W') ∨ (∃ pre, True ∧ Jx pre W')) := by
  have hro : Fence.wide.round = none := rfl
  have hfn : Fence.wide.fn 203 := trivial
  have hfa : Fence.wide.fn 106 := trivial
  have hfb : Fence.wide.fn 173 := trivial
  have ega : ∀ args w, (callFunc 106 args).run Tryz.prog w = .ok (.enter 106 args) w := enters_of Tryz.func106 (by kernel_rfl) rfl
  have egb : ∀ args w, (callFunc 173 args).run Tryz.prog w = .ok (.enter 173 args) w := enters_of Tryz.func173 (by kernel_rfl) rfl
  refine callsIn_of_wp Tryz.func203 rfl hfn ?_ hro
  simp only [Tryz.ntmps203, List.size_toArray, List.length_cons, List.length_nil, Nat.reduceAdd, Nat.reduceSub, Array.replicate_succ, Array.replicate_zero, List.push_toArray, List.append_toArray, List.nil_append, List.cons_append]
  gi_wp2
  gi_loopw [6, 8, 9, 15] (fun vlo _ _ i wr => ∃ (k : Nat) (acc : List Sp) (x : Int), k ≤ ls.length ∧ i = .int .i64 k ∧ vlo = .int .i64 x ∧ Hid (pfoldG (fun u => u + 1) (fun u => u - 1) (ls.take k) lo = (acc, x)) ∧ (-2100000000000000 ≤ x ∧ x ≤ 2100000000000000) ∧ J acc wr ∧ KpB Bs n₀ W wr)
    (fun _ _ _ i _ => ls.length - (intOf i).toNat)
  case atStart => exact ⟨0, [], lo, Nat.zero_le _, rfl, rfl, rfl, by omega, h0, KpB.refl _ _ _⟩
  case round =>
    obtain ⟨k, acc, x, hk, rfl, rfl, Hst, hx, hJs, hK⟩ := hrel
    have hsz := hK.below.size
    have hlen : acc.length ≤ k := by
      have := pfoldG_len (fun u => u + 1) (fun u => u - 1) (ls.take k) ([], lo)
      have e := Hst.out
      unfold pfoldG at e
      rw [e, List.length_take] at this
      simp at this
      omega
    have d4 := (hK.below.cell (p := ⟨b4, 0, none⟩) h4).trans c4
    have d51 := (hK.below.cell (p := ⟨b5, 1, none⟩) h5).trans c51
    have d6 := (hK.below.cell (p := ⟨b6, 0, none⟩) h6).trans c6
    have d7 := (hK.below.cell (p := ⟨b7, 0, none⟩) h7).trans c7
    by_cases hlt : k < ls.length
    · have hst2 := pfoldG_take (fun u => u + 1) (fun u => u - 1) ls lo k hlt
      rw [Hst.out] at hst2
      have hs := hbd.get hlt
      obtain ⟨b, off, rfl, hbB, hc0, hc1⟩ := hA.at_ hlt
      have hd0 := (hK.below.cell (p := ⟨b, off + k * 2, none⟩) hbB).trans hc0
      have hd1 := (hK.below.cell (p := ⟨b, off + k * 2 + 1, none⟩) hbB).trans hc1
      generalize ls[k] = s at *
      obtain ⟨s1, s2⟩ := s
      simp only at hd0 hd1 hs
      obtain ⟨t1, t2, t3, t4⟩ := hs
      have Hst2 := Lib.hid hst2
      clear hst2 hc0 hc1 hA
      have d7a := fun o => (World.cell?_alloc_lt wr o ⟨b7, 0, none⟩ (by simp only; omega)).trans d7
      have d6a := fun o o' => (World.cell?_alloc_lt (wr.alloc o) o' ⟨b6, 0, none⟩ (by simp; omega)).trans ((World.cell?_alloc_lt wr o ⟨b6, 0, none⟩ (by simp only; omega)).trans d6)
      have hbx : -2100000000000000 ≤ s2 + 1 ∧ s2 + 1 ≤ 2100000000000000 := by omega
      by_cases hc : x ≤ s1 - 1
      · have hcase : pstepG (fun u => u + 1) (fun u => u - 1) (acc, x) (s1, s2) = (acc ++ [(x, s1 - 1)], s2 + 1) := by unfold pstepG; simp only; rw [if_pos hc]
        have Hc := Lib.hid hcase
        clear hcase
        have hJ2 := fun o o' => hJ acc (wr.alloc o) ((wr.alloc o).alloc o') none (hJ acc wr (wr.alloc o) none hJs (World.grownBy_alloc wr o none) (fun r e => by cases e)) (World.grownBy_alloc _ o' none) (fun r e => by cases e)
        obtain ⟨fn, tmps, assign, body, hy, hR⟩ := hY acc (x, s1 - 1) ((wr.alloc (.cells #[.int .i64 s1, .int .i64 s2] 57)).alloc (.cells #[.int .i64 x, .int .i64 (s1 - 1)] 57)) (hJ2 _ _) (by omega)
        dsimp only at hy
        gi_wp2_with fail
        refine (callsIn_wide.2 (back_any s1 _ (by omega) (by omega))).mono ?_
        rintro e w' ⟨rfl, rfl⟩
        gi_wp2_with fail
        refine hR.mono ?_
        rintro e W3 (⟨rfl, hJ3, hk3⟩ | ⟨rfl, hJx3⟩)
        · have hK5 := ((hK.alloc (by omega) (by omega) (.cells #[.int .i64 s1, .int .i64 s2] 57)).alloc (by simp; omega) (by simp; omega) (.cells #[.int .i64 x, .int .i64 (s1 - 1)] 57))
          have hb8 : Blk2 W3 wr.heap.size (.int .i64 s1) (.int .i64 s2) := by
            refine hk3.same wr.heap.size _ ((Blk2.new wr (.int .i64 s1) (.int .i64 s2)).alloc _) rfl (by omega) (fun hrow => ?_)
            have hr1 : RowOf Bs wr wr.heap.size := by
              obtain ⟨n1, c1, hcc⟩ := hrow
              rw [World.cell?_alloc_lt _ _ _ (by simp; omega), World.cell?_alloc_lt _ _ _ (by simp only; omega)] at hcc
              exact ⟨n1, c1, hcc⟩
            have := hK.rb hrb _ hr1
            omega
          have e81 := hb8.cell1
          have e6 := (hk3.below.cell (p := ⟨b6, 0, none⟩) h6).trans (d6a _ _)
          have HK := Lib.hid (hK5.trans hk3)
          have HJ3 := Lib.hid hJ3
          clear hK5 hk3 hJ3 hb8 hy hR hJ2
          gi_wp2_with fail
          refine (callsIn_wide.2 (whole_any s2 _ (by omega) (by omega))).mono ?_
          rintro e w' ⟨rfl, rfl⟩
          gi_wp2
          go_roundw
          case rel => exact ⟨k + 1, acc ++ [(x, s1 - 1)], s2 + 1, by omega, by simp, rfl, Hst2.out.trans Hc.out, hbx, HJ3.out, HK.out⟩
          case measure => simp [intOf]; omega
        · gi_wp2
          refine bodyPost_ret (results_none rfl _ _ _) rfl ?_
          exact ⟨⟨_, rfl⟩, .inr ⟨_, trivial, hJx3⟩⟩
      · have hcase : pstepG (fun u => u + 1) (fun u => u - 1) (acc, x) (s1, s2) = (acc, s2 + 1) := by unfold pstepG; simp only; rw [if_neg hc]
        have Hc := Lib.hid hcase
        clear hcase
        have hJ2 := fun o o' => hJ acc (wr.alloc o) ((wr.alloc o).alloc o') none (hJ acc wr (wr.alloc o) none hJs (World.grownBy_alloc wr o none) (fun r e => by cases e)) (World.grownBy_alloc _ o' none) (fun r e => by cases e)
        have HJ2 := Lib.hid hJ2
        clear hJ2
        gi_wp2_with fail
        refine (callsIn_wide.2 (back_any s1 _ (by omega) (by omega))).mono ?_
        rintro e w' ⟨rfl, rfl⟩
        gi_wp2_with fail
        refine ⟨fun _ h => (by cases h), ?_⟩
        gi_wp2_with fail
        refine (callsIn_wide.2 (whole_any s2 _ (by omega) (by omega))).mono ?_
        rintro e w' ⟨rfl, rfl⟩
        gi_wp2
        go_roundw
        case rel => exact ⟨k + 1, acc, s2 + 1, by omega, by simp, rfl, Hst2.out.trans Hc.out, hbx, HJ2.out _ _, (hK.alloc (by omega) (by omega) _).alloc (by simp; omega) (by simp; omega) _⟩
        case measure => simp [intOf]; omega
    · have hkl : k = ls.length := by omega
      subst hkl
      have hst := Hst.out
      rw [List.take_of_length_le (Nat.le_refl _)] at hst
      have hdef : pgaps (fun u => u + 1) (fun u => u - 1) ls lo hi = if x ≤ hi then acc ++ [(x, hi)] else acc := by unfold pgaps; rw [hst]
      have HD := Lib.hid hdef
      clear hst hdef
      have hJ1 := fun o => hJ acc wr (wr.alloc o) none hJs (World.grownBy_alloc wr o none) (fun r e => by cases e)
      by_cases hc : x ≤ hi
      · obtain ⟨fn, tmps, assign, body, hy, hR⟩ := hY acc (x, hi) (wr.alloc (.cells #[.int .i64 x, .int .i64 hi] 57)) (hJ1 _) (by omega)
        dsimp only at hy
        gi_wp2_with fail
        refine hR.mono ?_
        rintro e W3 (⟨rfl, hJ3, hk3⟩ | ⟨rfl, hJx3⟩)
        · gi_wp2
          go_end0
          exact ⟨⟨_, rfl⟩, .inl ⟨_, rfl, by rw [HD.out, if_pos hc]; exact hJ3⟩⟩
        · gi_wp2
          go_end0
          exact ⟨⟨_, rfl⟩, .inr ⟨_, trivial, hJx3⟩⟩
      · have HN : Hid (pgaps (fun u => u + 1) (fun u => u - 1) ls lo hi = acc) := Lib.hid (by rw [HD.out, if_neg hc])
        gi_wp2
        go_end0
        exact ⟨⟨_, rfl⟩, .inl (by rw [HN.out]; exact hJ1 _)⟩

set_option maxRecDepth 100000 in
set_option maxHeartbeats 2000000 in
theorem gaps1_after (n : Nat) (hn : 1 ≤ n) (l Bs n₀ b4 b5 b6 b7 : Nat) (A : Option Addr) (c : Nat) (ls : List Sp) (lo hi : Int) (hls : ls.length ≤ 1000000) (hbd : Bdd ls)
    (hlo : -2000000000000000 ≤ lo ∧ lo ≤ 2000000000000000)
    (h4 : b4 < n₀) (h5 : b5 < n₀) (h6 : b6 < n₀) (h7 : b7 < n₀) (J Jx : List Sp → World → Prop)
    (hY : ∀ pre x W, J pre W → pre.length < ls.length + 1 → YieldAt Fence.wide (n - 1) Tryz.prog l #[.agg #[.int .i64 x.1, .int .i64 x.2]] W fun e W' =>
      (e = .returned (.bool true) ∧ J (pre ++ [x]) W' ∧ KpB Bs n₀ W W') ∨ (e = .returned (.bool false) ∧ Jx (pre ++ [x]) W'))
    (W : World) (hJ : AbidesFrom W.heap.size J) (hn₀ : n₀ ≤ W.heap.size) (hBs : Bs < W.heap.size) (hrb : RB Bs W)
    (c4 : W.cell? ⟨b4, 0, none⟩ = some (.slice A ls.length c)) (c50 : W.cell? ⟨b5, 0, none⟩ = some (.int .i64 lo)) (c51 : W.cell? ⟨b5, 1, none⟩ = some (.int .i64 hi))
    (c6 : W.cell? ⟨b6, 0, none⟩ = some (.func (.func 107) #[] #[])) (c7 : W.cell? ⟨b7, 0, none⟩ = some (.func (.func 174) #[] #[]))
    (hA : SlAt W n₀ A ls) (h0 : J [] W) :
    CallsIn Fence.wide n Tryz.prog 203 #[.func (.yield l) #[] #[], .pointer (some ⟨b5, 0, none⟩), .pointer (some ⟨b4, 0, none⟩), .pointer (some ⟨b7, 0, none⟩), .pointer (some ⟨b6, 0, none⟩)] W fun e W' => (∃ v, e = .returned v) ∧
      ((∃ ys, ys = pgaps afterI beforeI ls lo hi ∧ J ys W') ∨ (∃ pre, True ∧ Jx pre W')) := by
  have hro : Fence.wide.round = none := rfl
  have hfn : Fence.wide.fn 203 := trivial
  have hfa : Fence.wide.fn 107 := trivial
  have hfb : Fence.wide.fn 174 := trivial
  have ega : ∀ args w, (callFunc 107 args).run Tryz.prog w = .ok (.enter 107 args) w := enters_of Tryz.func107 (by kernel_rfl) rfl
  have egb : ∀ args w, (callFunc 174 args).run Tryz.prog w = .ok (.enter 174 args) w := enters_of Tryz.func174 (by kernel_rfl) rfl
  refine callsIn_of_wp Tryz.func203 rfl hfn ?_ hro
  simp only [Tryz.ntmps203, List.size_toArray, List.length_cons, List.length_nil, Nat.reduceAdd, Nat.reduceSub, Array.replicate_succ, Array.replicate_zero, List.push_toArray, List.append_toArray, List.nil_append, List.cons_append]
  gi_wp2
  gi_loopw [6, 8, 9, 15] (fun vlo _ _ i wr => ∃ (k : Nat) (acc : List Sp) (x : Int), k ≤ ls.length ∧ i = .int .i64 k ∧ vlo = .int .i64 x ∧ Hid (pfoldG afterI beforeI (ls.take k) lo = (acc, x)) ∧ (-2100000000000000 ≤ x ∧ x ≤ 2100000000000000) ∧ J acc wr ∧ KpB Bs n₀ W wr)
    (fun _ _ _ i _ => ls.length - (intOf i).toNat)
  case atStart => exact ⟨0, [], lo, Nat.zero_le _, rfl, rfl, rfl, by omega, h0, KpB.refl _ _ _⟩
  case round =>
    obtain ⟨k, acc, x, hk, rfl, rfl, Hst, hx, hJs, hK⟩ := hrel
    have hsz := hK.below.size
    have hlen : acc.length ≤ k := by
      have := pfoldG_len afterI beforeI (ls.take k) ([], lo)
      have e := Hst.out
      unfold pfoldG at e
      rw [e, List.length_take] at this
      simp at this
      omega
    have d4 := (hK.below.cell (p := ⟨b4, 0, none⟩) h4).trans c4
    have d51 := (hK.below.cell (p := ⟨b5, 1, none⟩) h5).trans c51
    have d6 := (hK.below.cell (p := ⟨b6, 0, none⟩) h6).trans c6
    have d7 := (hK.below.cell (p := ⟨b7, 0, none⟩) h7).trans c7
    by_cases hlt : k < ls.length
    · have hst2 := pfoldG_take afterI beforeI ls lo k hlt
      rw [Hst.out] at hst2
      have hs := hbd.get hlt
      obtain ⟨b, off, rfl, hbB, hc0, hc1⟩ := hA.at_ hlt
      have hd0 := (hK.below.cell (p := ⟨b, off + k * 2, none⟩) hbB).trans hc0
      have hd1 := (hK.below.cell (p := ⟨b, off + k * 2 + 1, none⟩) hbB).trans hc1
      generalize ls[k] = s at *
      obtain ⟨s1, s2⟩ := s
      simp only at hd0 hd1 hs
      obtain ⟨t1, t2, t3, t4⟩ := hs
      have Hst2 := Lib.hid hst2
      clear hst2 hc0 hc1 hA
      have d7a := fun o => (World.cell?_alloc_lt wr o ⟨b7, 0, none⟩ (by simp only; omega)).trans d7
      have d6a := fun o o' => (World.cell?_alloc_lt (wr.alloc o) o' ⟨b6, 0, none⟩ (by simp; omega)).trans ((World.cell?_alloc_lt wr o ⟨b6, 0, none⟩ (by simp only; omega)).trans d6)
      have hbx : -2100000000000000 ≤ afterI s2 ∧ afterI s2 ≤ 2100000000000000 := by unfold afterI; split <;> omega
      by_cases hc : x ≤ beforeI s1
      · have hcase : pstepG afterI beforeI (acc, x) (s1, s2) = (acc ++ [(x, beforeI s1)], afterI s2) := by unfold pstepG; simp only; rw [if_pos hc]
        have Hc := Lib.hid hcase
        clear hcase
        have hJ2 := fun o o' => hJ acc (wr.alloc o) ((wr.alloc o).alloc o') none (hJ acc wr (wr.alloc o) none hJs (World.grownBy_alloc wr o none) (fun r e => by cases e)) (World.grownBy_alloc _ o' none) (fun r e => by cases e)
        obtain ⟨fn, tmps, assign, body, hy, hR⟩ := hY acc (x, beforeI s1) ((wr.alloc (.cells #[.int .i64 s1, .int .i64 s2] 57)).alloc (.cells #[.int .i64 x, .int .i64 (beforeI s1)] 57)) (hJ2 _ _) (by omega)
        dsimp only at hy
        gi_wp2_with fail
        refine (callsIn_wide.2 (before_any s1 _ (by omega) (by omega))).mono ?_
        rintro e w' ⟨rfl, rfl⟩
        gi_wp2_with fail
        refine hR.mono ?_
        rintro e W3 (⟨rfl, hJ3, hk3⟩ | ⟨rfl, hJx3⟩)
        · have hK5 := ((hK.alloc (by omega) (by omega) (.cells #[.int .i64 s1, .int .i64 s2] 57)).alloc (by simp; omega) (by simp; omega) (.cells #[.int .i64 x, .int .i64 (beforeI s1)] 57))
          have hb8 : Blk2 W3 wr.heap.size (.int .i64 s1) (.int .i64 s2) := by
            refine hk3.same wr.heap.size _ ((Blk2.new wr (.int .i64 s1) (.int .i64 s2)).alloc _) rfl (by omega) (fun hrow => ?_)
            have hr1 : RowOf Bs wr wr.heap.size := by
              obtain ⟨n1, c1, hcc⟩ := hrow
              rw [World.cell?_alloc_lt _ _ _ (by simp; omega), World.cell?_alloc_lt _ _ _ (by simp only; omega)] at hcc
              exact ⟨n1, c1, hcc⟩
            have := hK.rb hrb _ hr1
            omega
          have e81 := hb8.cell1
          have e6 := (hk3.below.cell (p := ⟨b6, 0, none⟩) h6).trans (d6a _ _)
          have HK := Lib.hid (hK5.trans hk3)
          have HJ3 := Lib.hid hJ3
          clear hK5 hk3 hJ3 hb8 hy hR hJ2
          gi_wp2_with fail
          refine (callsIn_wide.2 (after_any s2 _ (by omega) (by omega))).mono ?_
          rintro e w' ⟨rfl, rfl⟩
          gi_wp2
          go_roundw
          case rel => exact ⟨k + 1, acc ++ [(x, beforeI s1)], afterI s2, by omega, by simp, rfl, Hst2.out.trans Hc.out, hbx, HJ3.out, HK.out⟩
          case measure => simp [intOf]; omega
        · gi_wp2
          refine bodyPost_ret (results_none rfl _ _ _) rfl ?_
          exact ⟨⟨_, rfl⟩, .inr ⟨_, trivial, hJx3⟩⟩
      · have hcase : pstepG afterI beforeI (acc, x) (s1, s2) = (acc, afterI s2) := by unfold pstepG; simp only; rw [if_neg hc]
        have Hc := Lib.hid hcase
        clear hcase
        have hJ2 := fun o o' => hJ acc (wr.alloc o) ((wr.alloc o).alloc o') none (hJ acc wr (wr.alloc o) none hJs (World.grownBy_alloc wr o none) (fun r e => by cases e)) (World.grownBy_alloc _ o' none) (fun r e => by cases e)
        have HJ2 := Lib.hid hJ2
        clear hJ2
        gi_wp2_with fail
        refine (callsIn_wide.2 (before_any s1 _ (by omega) (by omega))).mono ?_
        rintro e w' ⟨rfl, rfl⟩
        gi_wp2_with fail
        refine ⟨fun _ h => (by cases h), ?_⟩
        gi_wp2_with fail
        refine (callsIn_wide.2 (after_any s2 _ (by omega) (by omega))).mono ?_
        rintro e w' ⟨rfl, rfl⟩
        gi_wp2
        go_roundw
        case rel => exact ⟨k + 1, acc, afterI s2, by omega, by simp, rfl, Hst2.out.trans Hc.out, hbx, HJ2.out _ _, (hK.alloc (by omega) (by omega) _).alloc (by simp; omega) (by simp; omega) _⟩
        case measure => simp [intOf]; omega
    · have hkl : k = ls.length := by omega
      subst hkl
      have hst := Hst.out
      rw [List.take_of_length_le (Nat.le_refl _)] at hst
      have hdef : pgaps afterI beforeI ls lo hi = if x ≤ hi then acc ++ [(x, hi)] else acc := by unfold pgaps; rw [hst]
      have HD := Lib.hid hdef
      clear hst hdef
      have hJ1 := fun o => hJ acc wr (wr.alloc o) none hJs (World.grownBy_alloc wr o none) (fun r e => by cases e)
      by_cases hc : x ≤ hi
      · obtain ⟨fn, tmps, assign, body, hy, hR⟩ := hY acc (x, hi) (wr.alloc (.cells #[.int .i64 x, .int .i64 hi] 57)) (hJ1 _) (by omega)
        dsimp only at hy
        gi_wp2_with fail
        refine hR.mono ?_
        rintro e W3 (⟨rfl, hJ3, hk3⟩ | ⟨rfl, hJx3⟩)
        · gi_wp2
          go_end0
          exact ⟨⟨_, rfl⟩, .inl ⟨_, rfl, by rw [HD.out, if_pos hc]; exact hJ3⟩⟩
        · gi_wp2
          go_end0
          exact ⟨⟨_, rfl⟩, .inr ⟨_, trivial, hJx3⟩⟩
      · have HN : Hid (pgaps afterI beforeI ls lo hi = acc) := Lib.hid (by rw [HD.out, if_neg hc])
        gi_wp2
        go_end0
        exact ⟨⟨_, rfl⟩, .inl (by rw [HN.out]; exact hJ1 _)⟩

end Go.Proofs.YtpgkdhhlcpgjcaaGreatDoor
