/- Spots that may be a body: plain laws. -/
import Derived.Test.YtgecfcdafbedaaaGreatDoorZRSpotsPlayUpto13
import Derived.Test.YtgecfcdafbedaaaGreatDoorZRSpotsPlayUpto5
namespace Go.Proofs.YtgecfcdafbedaaaGreatDoor
set_option linter.unusedSimpArgs false
set_option linter.unusedVariables false

/-- The spots may be a body's: one to four, none 0, each once. -/
def SpOk (n : Nat) (f : Nat → Int) : Prop := 1 ≤ n ∧ n ≤ 4 ∧ (∀ j, j < n → f j ≠ 0) ∧ ∀ i j, i < j → j < n → f i ≠ f j
theorem shuf_all {n : Nat} {f f' : Nat → Int} (h : Shuf n f f') {P : Int → Prop} (hp : ∀ j, j < n → P (f j)) : ∀ j, j < n → P (f' j) := by
  obtain ⟨s, a1, a2, a3, a4⟩ := h
  exact fun j hj => by rw [a4 j hj]; exact hp _ (a1 j hj)
theorem spok_zero {n : Nat} {f f' : Nat → Int} (h : Shuf n f f') (hs : SortF f' 0 n) (h1 : 1 ≤ n) (hp : ∀ j, j < n → 0 ≤ f j) : f' 0 = 0 ↔ ∃ j, j < n ∧ f j = 0 := by
  have hp' := shuf_all h (P := fun x => 0 ≤ x) hp
  obtain ⟨s, a1, a2, a3, a4⟩ := h
  constructor
  · intro h0
    exact ⟨s 0, a1 0 (by omega), by rw [← a4 0 (by omega)]; exact h0⟩
  · rintro ⟨j, hj, h0⟩
    obtain ⟨k, hk, e⟩ := a3 j hj
    have h2 : f' k = 0 := by rw [a4 k hk, e]; exact h0
    have h3 := hp' 0 (by omega)
    rcases Nat.eq_zero_or_pos k with h4 | h4
    · subst h4; exact h2
    · have := hs 0 k (Nat.le_refl _) h4 hk
      omega
theorem spok_like {n : Nat} {f f' : Nat → Int} (h : Shuf n f f') (hl : ∃ j, 1 ≤ j ∧ j < n ∧ f' j = f' (j - 1)) : ¬ ∀ i j, i < j → j < n → f i ≠ f j := by
  obtain ⟨s, a1, a2, a3, a4⟩ := h
  obtain ⟨j, h1, h2, h3⟩ := hl
  intro hn
  have e1 := a4 j h2
  have e2 := a4 (j - 1) (by omega)
  have hne : s j ≠ s (j - 1) := fun e => by have := a2 j (j - 1) h2 (by omega) e; omega
  rcases Nat.lt_or_gt_of_ne hne with h | h
  · exact hn _ _ h (a1 _ (by omega)) (by rw [← e1, ← e2]; exact h3)
  · exact hn _ _ h (a1 _ h2) (by rw [← e1, ← e2]; exact h3.symm)
theorem spok_un {n : Nat} {f f' : Nat → Int} (h : Shuf n f f') (hs : SortF f' 0 n) (hu : ∀ j, 1 ≤ j → j < n → f' j ≠ f' (j - 1)) : ∀ i j, i < j → j < n → f i ≠ f j := by
  have hlt : ∀ k l, k < l → l < n → f' k < f' l := by
    intro k l h1 h2
    have e1 := hu l (by omega) h2
    have e2 : f' (l - 1) ≤ f' l := hs (l - 1) l (Nat.zero_le _) (by omega) h2
    rcases Nat.lt_or_ge k (l - 1) with h3 | h3
    · have := hs k (l - 1) (Nat.zero_le _) h3 (by omega)
      omega
    · obtain rfl : k = l - 1 := by omega
      omega
  obtain ⟨s, a1, a2, a3, a4⟩ := h
  intro i j hij hj he
  obtain ⟨k, hk, e1⟩ := a3 i (by omega)
  obtain ⟨l, hl, e2⟩ := a3 j hj
  have e3 : f' k = f' l := by rw [a4 k hk, a4 l hl, e1, e2]; exact he
  have hne : k ≠ l := fun e => by subst e; omega
  rcases Nat.lt_or_gt_of_ne hne with h | h
  · have := hlt k l h hl; omega
  · have := hlt l k h hk; omega
/-- The bytes of spots, of which k are put. -/
def spPre (n : Nat) (f : Nat → Int) : Nat → List Int
  | 0 => [(n : Int)]
  | k + 1 => spPre n f k ++ be (f k) 4
theorem spPre_length (n : Nat) (f : Nat → Int) : ∀ k, (spPre n f k).length = 1 + 4 * k
  | 0 => rfl
  | k + 1 => by rw [spPre, List.length_append, spPre_length n f k, be_length]; omega
end Go.Proofs.YtgecfcdafbedaaaGreatDoor
