/- For ConcreteHidden: functions of the program, walked beside Lean functions that say what they compute. -/
import Derived.Test.YtmjddpeookapaaaGreatDoorSG
import Derived.Laws.IdiomStrings
import Derived.Lib.BufferRead
set_option linter.unusedVariables false
set_option linter.unusedSimpArgs false
set_option linter.unusedSectionVars false
namespace Go.Proofs.YtmjddpeookapaaaGreatDoor
open Go.RowKit
set_option maxRecDepth 100000
def keyL : List Int → List UInt8 → Option (List UInt8)
 | [], out => some out
 | n :: r, out => (cX n).bind fun _ => (Sv.grd (out.length + 1 + (eI n).length ≤ 1000000)).bind fun _ => keyL r (out ++ 44 :: eI n)
def vH (v : List Int) : Option (List UInt8) := (Sv.aN v).bind fun _ => keyL v []
def oq (w : World) (base : Nat) (v : Value) (l : List UInt8) : Prop := w.ownsRow base 5 1 v l.length (Lib.byteCells l)
theorem oq.below {w w' : World} {base : Nat} {v : Value} {l : List UInt8} (h : oq w base v l) (k : Below w.heap.size w w') : oq w' base v l := by
 refine ⟨h.1, ?_⟩
 rcases h.2 with h1 | ⟨g, cap, cur, rfl, hb, hg, rest⟩
 ·exact .inl h1
 ·exact .inr ⟨g, cap, cur, rfl, hb, by rw [k.block g (Array.getElem?_eq_some_iff.1 hg).1]; exact hg, rest⟩
theorem oq.form {w : World} {base : Nat} {v : Value} {l : List UInt8} (h : oq w base v l) : ∃ A c, v = .slice A l.length c := by
 rcases h.2 with ⟨h1, h2⟩ | ⟨g, cap, cur, h1, _⟩
 ·exact ⟨none, 0, by rw [h1, h2]⟩
 ·exact ⟨_, _, h1⟩
theorem app_b {ops : Array Oper} {rest : List Oper} {o : Oper} {a : Act} {Q : Exit → Act → World → Prop} {w : World} (hgd : o.guard = none) (s x : Operand)
  (ho : o.op = .call { callee := .builtin .append, args := #[s, x], argTypes := #[281, 281] })
  (base : Nat) (v : Value) (l : List UInt8) (g : Nat) (y : UInt8) (hs : a.eval s = v) (hown : oq w base v l) (hx : a.eval x = .slice (some ⟨g, 0, none⟩) 1 1)
  (hc : w.heap[g]? = some (.cells #[.int .u8 y.toNat] 5 (0, 0))) (hlen : l.length + 1 ≤ 1000000000) (hbase : base ≤ w.heap.size)
  (h : ∀ v' w', oq w' base v' (l ++ [y]) → Below base w w' → wpList Tryz.prog ops Q rest (a.put o.dst v') w') : wpList Tryz.prog ops Q (o :: rest) a w := by
 obtain ⟨i0, hi0, hz0, hz1, hz2⟩ := info_parts rF.infoByte
 refine wpList_append_own w hgd s x 281 ho base 5 i0 _ 1 1 Tryz.underlying281 hi0 hz0 hz1 hz2 rfl (by decide) v l.length (Lib.byteCells l) hs hown
  ⟨g, 0, none⟩ 1 1 [.int .u8 y.toNat] hx rfl ?_ ?_ (by unfold maxLen; omega) (by omega) hbase ?_
 ·intro j u hu
  match j, hu with
  | 0, hu => simp at hu; subst hu; simp [World.cell?, Addr.add, hc]
 ·intro u hu
  cases List.mem_singleton.1 hu
  rfl
 ·intro v' w' hown' hg _
  refine h v' w' ?_ ((Below.refl base w).grown hg hbase fun k hk => (hown.lt k hk).1)
  unfold oq
  rw [List.length_append, Lib.byteCells_append]
  exact hown'
set_option maxHeartbeats 4000000 in
theorem key_run {w : World} {v : Value} {l : List Int} {t : List UInt8} (hm : vH l = some t) (hv : ja w v l) (ht : TabW w) :
  Calls Tryz.prog 214 #[v] w fun e w' => e = .returned (.string ⟨t.toArray⟩) ∧ Below w.heap.size w w' := by
 unfold vH at hm
 obtain ⟨hrl, hm⟩ := Sv.aj hm
 obtain ⟨a1, cap1, rfl, hcap1, _⟩ := id hv
 have Ft := Lib.hid (Lib.tabBelow_of_tabIs ht)
 have HM := Lib.hid hm
 have HV := Lib.hid hv
 clear ht hm hv
 go_enter Tryz.func214, Tryz.ntmps214
 go_wp2_with fail
 go_loopw [3, 5, 8] (fun v _ i wr => ∃ (k : Nat) (acc : List UInt8), k ≤ l.length ∧ i = .int .i64 k ∧ Hid (keyL (l.drop k) acc = some t) ∧ Hid (oq wr w.heap.size v acc) ∧ Hid (Below w.heap.size w wr)) (fun _ _ i _ => l.length - (intOf i).toNat)
 case atStart => exact ⟨0, [], Nat.zero_le _, rfl, HM, Lib.hid (World.ownsRow_nil _ _ _ _), Lib.hid (Below.refl _ _)⟩
 case round =>
  obtain ⟨k, acc, hk, rfl, Hs, Hb, HB⟩ := hrel
  by_cases hlt : k < l.length
  ·have hs := Hs.out
   rw [List.drop_eq_getElem_cons hlt] at hs
   have hx : l[k]? = some l[k] := List.getElem?_eq_getElem hlt
   generalize l[k] = x at *
   obtain ⟨_, _, br, baser, rfl, hcx⟩ := HV.out.at_ hx
   unfold keyL at hs
   obtain ⟨hdi, hs⟩ := Sv.aj hs
   obtain ⟨hgl, hs⟩ := Sv.aj hs
   have hcx := dB HB.out hcx
   obtain ⟨A, c, rfl⟩ := Hb.out.form
   have Hs' := Lib.hid hs
   have Hgl := Lib.hid hgl
   clear hs hgl
   have hBs := Lib.hid HB.out.size
   have hown := (Hb.out : oq wr w.heap.size (.slice A acc.length c) acc)
   have hal : acc.length + 1 ≤ 1000000000 := by have := Hgl.out; omega
   go_wp2_with (at_builtin; refine app_b rfl _ _ rfl w.heap.size _ acc _ 44 rfl (World.ownsRow.alloc hown _) rfl (heap_alloc_new wr _) hal (by have := hBs.out; simp; omega) ?_)
   intro v2 w2 hown2 hb2
   obtain ⟨A2, c2, rfl⟩ := hown2.form
   have e1 : (acc ++ [(44 : UInt8)]).length = acc.length + 1 := by simp
   rw [e1] at hown2 ⊢
   unfold oq at hown2
   rw [e1] at hown2
   have HB2 := Lib.hid ((HB.out.alloc HB.out.size _).trans hb2)
   have Hown2 := Lib.hid hown2
   clear hb2 hown2 hown hBs
   have hal2 : acc.length + 1 + 21 ≤ 140737488355328 := by omega
   have Hc := Lib.hid (appInt w.heap.size _ x hdi.1 (by omega) _ _ w2 Hown2.out HB2.out.size hal2 (Ft.out.on HB2.out))
   clear Hown2 hal2 hal Hb HB
   go_wp2_with (go_at_call 267; refine Hc.out.mono ?_)
   rintro e w3 ⟨v3, rfl, hown3, hb3, _⟩
   have Hb3 := Lib.hid (show oq w3 w.heap.size v3 (acc ++ 44 :: eI x) by
    unfold oq
    have e2 : acc ++ (44 : UInt8) :: eI x = (acc ++ [44]) ++ eI x := by simp
    rw [e2, Lib.byteCells_append, List.length_append, e1]
    exact hown3)
   have HB3 := Lib.hid (HB2.out.trans hb3)
   clear hown3 hb3 Hc
   go_wp2
   go_roundw
   case rel => exact ⟨k + 1, _, by omega, by go_num, Hs', Hb3, HB3⟩
   case measure => simp [intOf]; omega
  ·have hkl : k = l.length := by omega
   subst hkl
   have hs := Hs.out
   rw [List.drop_of_length_le (Nat.le_refl _)] at hs
   unfold keyL at hs
   cases hs
   have hb := Hb.out
   obtain ⟨A, c, rfl⟩ := Hb.out.form
   have hcv : (convert 281 9 (.slice A t.length c)).run Tryz.prog wr = .ok (.string ⟨t.toArray⟩) wr := by
    rcases hb.2 with ⟨h1, h2⟩ | ⟨g, cap, cur, h1, _, hg, _, _, _, htk⟩
    ·injection h1 with ha hn hcc
     subst ha hcc
     have ht0 := List.length_eq_zero_iff.1 h2
     subst ht0
     exact Lib.run_convert_nil_bytes wr _ _ 5 0 Tryz.underlying281 Tryz.underlying5 Tryz.underlying9
    ·cases h1
     rw [Nat.mul_one] at htk
     exact run_convert_bytes_back wr _ _ 5 _ _ t Tryz.underlying281 Tryz.underlying5 Tryz.underlying9 (Lib.bytes_of_row hg htk)
   have HBo := Lib.hid HB.out
   clear hb
   go_wp2
   go_ret
   exact ⟨rfl, HB.out⟩
theorem key_ok {v : List Int} {r : List UInt8} (hm : vH v = some r) : Sv.aY Tryz.prog 214 [.lst false (v.map Sv.bt)] fun s => s = .str r := by
 have hcl : Sv.aw [Sv.SVal.lst false (v.map Sv.bt)] = true := by simp only [Sv.aw, Sv.closed, Sv.clR, Bool.and_self]
 refine ⟨hcl, .str r, [Sv.aS], ⟨⟨⟨Tryz.f214, _, (aa.funcs 214 Tryz.f214 rfl).1, (aa.funcs 214 Tryz.f214 rfl).2, rfl⟩, Sv.Sta.refl _, fun {c w} hr hwf hfree {vs} hd => ?_⟩, rfl, fun o ho => ?_, fun o ho => ?_, Sv.aW _ _ hcl, rfl⟩, rfl, rfl, rfl⟩
 ·obtain ⟨v1, l1, d1, rfl, rfl⟩ := hd
  refine (key_run hm (vI .lst hr d1) (tab_of hr rfl)).mono fun e w' ⟨he, hB⟩ => ?_
  have hg : Sv.cE w w' := ⟨hB.os, hB.tape, hB.output, hB.size, fun r h => hB.block r h⟩
  obtain ⟨r1, s1⟩ := Sv.iu hr hg (fun _ _ _ h => h) (fun _ _ _ h => .inl h) (fun bb i v hv => by
   obtain ⟨arr, e, f, q1, q2⟩ := hr.fz bb i v hv
   exact ⟨arr, e, f, by rw [hg.old bb (Array.getElem?_eq_some_iff.1 q1).1]; exact q1, q2⟩)
  exact ⟨_, he, ⟨c.ρ, c.fz⟩, ⟨rfl, r1, s1⟩⟩
 ·cases List.mem_singleton.1 ho
  exact Sv.gW
 ·cases List.mem_singleton.1 ho
  exact Sv.gW
end Go.Proofs.YtmjddpeookapaaaGreatDoor
