/- Pieces that are got are few, and small. -/
import Derived.Test.YtlcnjdpfijgcdaaGreatDoorKPieces
namespace Go.Proofs.YtlcnjdpfijgcdaaGreatDoor
set_option linter.unusedSimpArgs false
set_option linter.unusedVariables false

theorem getGo_small : ∀ (f : Nat) (last : Int) (out : List Piece) (b : List Int), b.length ≤ 2048 → out.length ≤ 16 → (∀ p ∈ out, p.2.length ≤ 2048) → (getGo f last out b).2.length ≤ 16 ∧ ∀ p ∈ (getGo f last out b).2, p.2.length ≤ 2048 := by
  intro f
  induction f with
  | zero => intro last out b _ _ _; simp [getGo]
  | succ f ih =>
    intro last out b hb ho hp
    unfold getGo
    split
    · exact ⟨ho, hp⟩
    · split
      · simp
      · split
        · simp
        · split
          · simp
          · split
            · simp
            · split
              · simp
              · refine ih _ _ _ (by rw [List.length_drop]; omega) (by rw [List.length_append]; simp; omega) (fun p hp' => ?_)
                rcases List.mem_append.1 hp' with h | h
                · exact hp p h
                · obtain rfl := List.mem_singleton.1 h
                  simp only [List.length_take, List.length_drop]; omega
theorem paGet_small (b : List Int) : (paGet b).2.length ≤ 16 ∧ ∀ p ∈ (paGet b).2, p.2.length ≤ 2048 := by
  unfold paGet
  split
  · simp
  · exact getGo_small _ _ _ _ (by omega) (by simp) (by simp)
end Go.Proofs.YtlcnjdpfijgcdaaGreatDoor
