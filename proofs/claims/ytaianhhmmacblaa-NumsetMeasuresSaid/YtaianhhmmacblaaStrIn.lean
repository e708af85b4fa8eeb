import Derived.Test.YtaianhhmmacblaaCmpP
/-
  slices.Index and Contains over strings.
-/
namespace Go.Proofs.Ytaianhhmmacblaa
open Go.RowKit

def eqS (x s : ByteArray) : Bool := x.toList == s.toList

set_option maxRecDepth 100000 in
set_option maxHeartbeats 1000000 in
theorem indexS_any (w : World) (g : Nat) (L : List ByteArray) (c : Nat) (x : ByteArray) (hL : ∀ k s, L[k]? = some s → w.cell? ⟨g, k, none⟩ = some (.string s)) (hlen : L.length ≤ 1000) :
    Calls Try.prog 76 #[.slice (some ⟨g, 0, none⟩) L.length c, .string x] w fun e w' => (∃ i : Int, e = .returned (.int .i64 i) ∧ (0 ≤ i ↔ L.any (eqS x) = true)) ∧ w = w' := by
  go_enter Try.func76, Try.ntmps76
  go_wp2
  go_loopw [5, 8] (fun _ i wr => ∃ k : Nat, k ≤ L.length ∧ i = .int .i64 k ∧ Hid ((L.take k).any (eqS x) = false) ∧ wr = w) (fun _ i _ => L.length - (intOf i).toNat)
  case atStart => exact ⟨0, Nat.zero_le _, rfl, by show (L.take 0).any (eqS x) = false; simp, rfl⟩
  case round =>
    obtain ⟨k, hk, rfl, Hn, rfl⟩ := hrel
    by_cases hlt : k < L.length
    · have hc := hL k L[k] (List.getElem?_eq_getElem hlt)
      have hin : Hid (L.take (k + 1) = L.take k ++ [L[k]]) := Lib.hid (List.take_succ_eq_append_getElem hlt)
      have hmem : Hid (L[k] ∈ L) := Lib.hid (List.getElem_mem hlt)
      generalize L[k] = s at *
      clear hL
      cases hx : (x.toList == s.toList)
      rotate_left
      · go_wp2
        go_ret
        exact ⟨⟨k, rfl, ⟨fun _ => List.any_eq_true.2 ⟨s, hmem.out, hx⟩, fun _ => by omega⟩⟩, rfl⟩
      · go_wp2
        go_roundw
        case rel => exact ⟨k + 1, by omega, by go_num, Lib.hid (by rw [hin.out, List.any_append, Hn.out]; simp [eqS, hx]), trivial⟩
        case measure => simp [intOf]; omega
    · have hkl : k = L.length := by omega
      subst hkl
      have hn := Hn.out
      rw [List.take_of_length_le (Nat.le_refl _)] at hn
      have HN := Lib.hid hn
      clear hn Hn
      go_wp2
      go_ret
      exact ⟨⟨-1, rfl, ⟨fun h => by omega, fun h => absurd h (by rw [HN.out]; simp)⟩⟩, rfl⟩

set_option maxRecDepth 100000 in
theorem containsS_any (w : World) (g : Nat) (L : List ByteArray) (c : Nat) (x : ByteArray) (hL : ∀ k s, L[k]? = some s → w.cell? ⟨g, k, none⟩ = some (.string s)) (hlen : L.length ≤ 1000) :
    Calls Try.prog 48 #[.slice (some ⟨g, 0, none⟩) L.length c, .string x] w fun e w' => (∃ b, e = .returned (.bool b) ∧ (b = L.any (eqS x))) ∧ w = w' := by
  go_enter Try.func48, Try.ntmps48
  have hcon := indexS_any w g L c x hL hlen
  clear hL
  go_wp2_with fail
  refine hcon.mono ?_
  rintro e w' ⟨⟨i, rfl, hi⟩, rfl⟩
  have HI := Lib.hid hi
  clear hi hcon
  go_wp2
  go_ret
  exact ⟨⟨decide (0 ≤ i), rfl, by rw [Bool.eq_iff_iff]; simp [HI.out]⟩, rfl⟩
end Go.Proofs.Ytaianhhmmacblaa
