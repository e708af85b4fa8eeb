/- For ConcreteHidden: functions of the program, walked beside Lean functions that say what they compute. -/
import Derived.Test.YtmjddpeookapaaaGreatDoorEn
import Derived.Test.YtmjddpeookapaaaGreatDoorSvG
import Derived.WalkKit
import Derived.Outline
import Derived.WalkSpells
import Derived.WalkLawsBesides
import Derived.Lib.Hide
import Derived.BigQuiet
import Derived.Deep.QuietTactic
import Derived.Deep.Upon
set_option linter.unusedVariables false
set_option linter.unusedSimpArgs false
set_option linter.unusedSectionVars false
namespace Go.Proofs.YtmjddpeookapaaaGreatDoor
open Go.RowKit
set_option maxRecDepth 100000
set_option maxHeartbeats 1000000
theorem jC {P : Program} {t e : TypeId} (hu : P.underlying t = some (.slice e)) (a : Option Addr) (n cap : Nat) (w : World) : (binOp .eql t (.slice a n cap) (.slice none 0 0)).run P w = .ok (.bool a.isNone) w := by
 rw [Sv.sw t (.slice a n cap) (.slice none 0 0) rfl]
 unfold Op.equal
 rw [show Op.maxDepth = 9999 + 1 from rfl]
 generalize 9999 = d
 cases a <;> simp [Op.equalIn, run_underlying hu]
theorem iR {f : FuncId} {fn : Func} {body : Code} (hf : Sv.T.get envT.funcs f = some fn) (hb : fn.body = some body)
  (h : ∀ (a : Option Addr) (cap : Nat) (w : World), Calls Tryz.prog f #[.slice a 0 cap] w fun e w' => ∃ b, e = .returned (.slice b 0 0) ∧ Sv.cE w w') : Sv.Has Tryz.prog f [.lst false []] fun s => s = .lst true [] := by
 refine ⟨.lst true [], ⟨⟨fn, body, (aa.funcs f fn hf).1, (aa.funcs f fn hf).2, hb⟩, rfl, rfl, fun {fz w vs} hfz hd => ?_⟩, rfl⟩
 obtain ⟨v, l, hv, hl, rfl⟩ := hd
 cases hl
 have e : ∃ a cap, v = .slice a 0 cap := by
  rcases hv with ⟨_, a, cap, h1, _⟩ | ⟨b, base, size, cap, h1, _⟩
  ·exact ⟨a, cap, h1⟩
  ·exact ⟨_, cap, h1⟩
 obtain ⟨a, cap, rfl⟩ := e
 refine (h a cap w).mono fun e w' ⟨b, he, g⟩ => ⟨_, he, fz, fun _ _ _ h => h, fun _ _ _ h => .inl h, fun b i v hv => ?_, g, .inl ⟨rfl, b, 0, rfl, fun _ => rfl⟩⟩
 obtain ⟨arr, e, f, h1, h2⟩ := hfz b i v hv
 have hlt : b < w.heap.size := by
  rw [Array.getElem?_eq_some_iff] at h1
  exact h1.1
 exact ⟨arr, e, f, by rw [g.old b hlt]; exact h1, h2⟩
theorem ti {f : FuncId} {fn : Func} {body : Code} (hf : Sv.T.get envT.funcs f = some fn) (hb : fn.body = some body)
  (h : ∀ (a : Option Addr) (cap : Nat) (w : World), Calls Tryz.prog f #[.slice a 0 cap] w fun e w' => ∃ b, e = .returned (.slice b 0 0) ∧ Sv.cE w w') : Sv.Has Tryz.prog f [.lst false []] fun s => s = .lst false [] := by
 refine ⟨.lst false [], ⟨⟨fn, body, (aa.funcs f fn hf).1, (aa.funcs f fn hf).2, hb⟩, rfl, rfl, fun {fz w vs} hfz hd => ?_⟩, rfl⟩
 obtain ⟨v, l, hv, hl, rfl⟩ := hd
 cases hl
 have e : ∃ a cap, v = .slice a 0 cap := by
  rcases hv with ⟨_, a, cap, h1, _⟩ | ⟨b, base, size, cap, h1, _⟩
  ·exact ⟨a, cap, h1⟩
  ·exact ⟨_, cap, h1⟩
 obtain ⟨a, cap, rfl⟩ := e
 refine (h a cap w).mono fun e w' ⟨b, he, g⟩ => ⟨_, he, fz, fun _ _ _ h => h, fun _ _ _ h => .inl h, fun b i v hv => ?_, g, .inl ⟨rfl, b, 0, rfl, fun h => by cases h⟩⟩
 obtain ⟨arr, e, f, h1, h2⟩ := hfz b i v hv
 have hlt : b < w.heap.size := by
  rw [Array.getElem?_eq_some_iff] at h1
  exact h1.1
 exact ⟨arr, e, f, by rw [g.old b hlt]; exact h1, h2⟩
theorem lD (a : Option Addr) (cap : Nat) (w : World) : Calls Tryz.prog 85 #[.slice a 0 cap] w fun e w' => ∃ b, e = .returned (.slice b 0 0) ∧ Sv.cE w w' := by
 have hq := jC (P := Tryz.prog) Tryz.underlying111 a 0 cap
 rcases a with _ | p
 ·simp only [Option.isNone_none] at hq
  go_enter Tryz.func85, Tryz.ntmps85
  go_wp2
  go_ret
  exact ⟨_, rfl, Sv.cE.refl w⟩
 ·simp only [Option.isNone_some] at hq
  go_enter Tryz.func85, Tryz.ntmps85
  go_wp2
  go_ret
  exact ⟨_, rfl, Sv.cE.alloc w _⟩
theorem cloneEdge_nil : Sv.Has Tryz.prog 85 [.lst false []] fun s => s = .lst true [] := iR (fn := Tryz.f85) rfl rfl lD
theorem tk (a : Option Addr) (cap : Nat) (w : World) : Calls Tryz.prog 61 #[.slice a 0 cap] w fun e w' => ∃ b, e = .returned (.slice b 0 0) ∧ Sv.cE w w' := by
 have hq := jC (P := Tryz.prog) Tryz.underlying67 a 0 cap
 rcases a with _ | p
 ·simp only [Option.isNone_none] at hq
  go_enter Tryz.func61, Tryz.ntmps61
  go_wp2
  go_ret
  exact ⟨_, rfl, Sv.cE.refl w⟩
 ·simp only [Option.isNone_some] at hq
  go_enter Tryz.func61, Tryz.ntmps61
  go_wp2
  go_ret
  exact ⟨_, rfl, Sv.cE.alloc w _⟩
theorem lC : Sv.Has Tryz.prog 61 [.lst false []] fun s => s = .lst true [] := iR (fn := Tryz.f61) rfl rfl tk
theorem tl (a : Option Addr) (cap : Nat) (w : World) : Calls Tryz.prog 84 #[.slice a 0 cap] w fun e w' => ∃ b, e = .returned (.slice b 0 0) ∧ Sv.cE w w' := by
 have hq := jC (P := Tryz.prog) Tryz.underlying38 a 0 cap
 rcases a with _ | p
 ·simp only [Option.isNone_none] at hq
  go_enter Tryz.func84, Tryz.ntmps84
  go_wp2
  go_ret
  exact ⟨_, rfl, Sv.cE.refl w⟩
 ·simp only [Option.isNone_some] at hq
  go_enter Tryz.func84, Tryz.ntmps84
  go_wp2
  go_ret
  exact ⟨_, rfl, Sv.cE.alloc w _⟩
theorem tm : Sv.Has Tryz.prog 84 [.lst false []] fun s => s = .lst true [] := iR (fn := Tryz.f84) rfl rfl tl
end Go.Proofs.YtmjddpeookapaaaGreatDoor
