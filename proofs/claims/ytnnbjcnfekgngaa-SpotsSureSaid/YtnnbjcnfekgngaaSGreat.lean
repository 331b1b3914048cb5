/- great: more acts than are gone through: whichever it tells. -/
import Derived.Test.YtnnbjcnfekgngaaSActs
import Derived.Test.YtnnbjcnfekgngaaPart
namespace Go.Proofs.Ytnnbjcnfekgngaa
open Go.RowKit
set_option linter.unusedSimpArgs false
set_option linter.unusedVariables false
/-- One or the other. -/
def AnyBool (w : World) (e : Ending) (w' : World) : Prop := ∃ q : Bool, e = .returned (.bool q) ∧ w = w'
set_option maxHeartbeats 1000000 in
theorem great_any (A : Option Addr) (n c : Nat) (xs : List Sa) (w : World) (h : SActs w A n xs) (hn : n ≤ maxLen) :
    Calls Try.prog 6 #[.slice A n c] w (AnyBool w) := by
  unfold maxLen at hn
  have HA := Lib.hid h
  have HL := Lib.hid h.len
  have HR : Hid (0 < n → ∃ b off, A = some ⟨b, off, none⟩ ∧ ∀ j, j < n → ∃ L m c, w.cell? ⟨b, off + j * 36 + 1, none⟩ = some (.slice L m c)) := Lib.hid (fun h0 => by
    obtain ⟨b, off, e, _, hr⟩ := h.row h0
    refine ⟨b, off, e, fun j hj => ?_⟩
    obtain ⟨x, hx⟩ : ∃ x, xs[j]? = some x := ⟨_, List.getElem?_eq_getElem (by rw [h.len]; exact hj)⟩
    exact ⟨_, _, _, (sa_at (hr j x hx) (h.ok x (List.mem_of_getElem? hx)).sum).2.1⟩)
  clear h
  go_enter Try.func6, Try.ntmps6
  go_wp2_with fail
  go_loop [3, 4] (fun s i => ∃ (k : Nat) (v : Int), k ≤ n ∧ i = .int .i64 k ∧ s = .int .i64 v) (fun _ i => n - (intOf i).toNat)
  case atStart => exact ⟨0, 0, Nat.zero_le _, rfl, rfl⟩
  case round =>
    obtain ⟨k, v, hk, rfl, rfl⟩ := hrel
    by_cases hlt : k < n
    · obtain ⟨b, off, rfl, hr⟩ := HR.out (by omega)
      obtain ⟨L, m, cc, hc⟩ := hr k hlt
      have i0 : (0 : Int) ≤ (k : Int) := by omega
      have i1 : (k : Int) < (n : Int) := by omega
      clear hr
      go_wp2_with fail
      go_round
      case rel => exact ⟨k + 1, _, by omega, by go_num, rfl⟩
      case measure => simp [intOf]; omega
    · obtain rfl : k = n := by omega
      go_wp2_with fail
      go_ret
      exact ⟨_, rfl, rfl⟩
end Go.Proofs.Ytnnbjcnfekgngaa
