/- A beginning of pieces' bytes: a plain law (for ParamsBack). -/
import Derived.Test.YtpfgacaplmgmoaaKPieces
namespace Go.Proofs.Ytpfgacaplmgmoaa
set_option linter.unusedSimpArgs false
set_option linter.unusedVariables false

theorem pieces_pos (p : Piece) (l : List Piece) : 0 < (pieces (p :: l)).length := by
  have := fill8_ge (4 + p.2.length)
  rw [pieces, List.length_append, pieceB_length]; omega
theorem getGo_prefix : ∀ (l : List Piece) (f : Nat) (last : Int) (out : List Piece) (n : Nat), (∀ p ∈ l, okPiece p) → (∀ p ∈ l, p.2.length ≤ 2048) → rises last l = true → out.length + l.length ≤ 16 → n ≤ (pieces l).length → n < f →
    (getGo f last out ((pieces l).take n)).1 = 5 ∨ ∃ k, k ≤ l.length ∧ getGo f last out ((pieces l).take n) = (0, out ++ l.take k) ∧ n = (pieces (l.take k)).length
  | [], f, last, out, n, _, _, _, _, hn, hf => by
    obtain ⟨f, rfl⟩ : ∃ g, f = g + 1 := ⟨f - 1, by omega⟩
    have : n = 0 := by simpa [pieces] using hn
    subst this
    exact .inr ⟨0, Nat.le_refl _, by simp [getGo, pieces], by simp [pieces]⟩
  | p :: l, f, last, out, n, hk, hb, hr, ho, hn, hf => by
    obtain ⟨f, rfl⟩ : ∃ g, f = g + 1 := ⟨f - 1, by omega⟩
    have hp := hb p (by simp)
    have hF := fill8_ge (4 + p.2.length)
    have hl : (pieceB p ++ pieces l).length = fill8 (4 + p.2.length) + (pieces l).length := by rw [List.length_append, pieceB_length]
    simp only [rises, Bool.and_eq_true, decide_eq_true_eq] at hr
    rw [pieces] at hn ⊢
    rw [hl] at hn
    have htl : ((pieceB p ++ pieces l).take n).length = n := by rw [List.length_take, hl]; omega
    by_cases h0 : n = 0
    · subst h0
      exact .inr ⟨0, Nat.zero_le _, by simp [getGo], by simp [pieces]⟩
    · by_cases h4 : n < 4
      · left
        rw [getGo, htl, if_neg h0, if_pos h4]
      · obtain ⟨e1, e2, e3, e4, e5⟩ := pieceB_parts p (pieces l) (hk p (by simp)) (by omega)
        have t1 : ((pieceB p ++ pieces l).take n).take 2 = (pieceB p ++ pieces l).take 2 := by rw [List.take_take, Nat.min_eq_left (by omega)]
        have t2 : (((pieceB p ++ pieces l).take n).drop 2).take 2 = ((pieceB p ++ pieces l).drop 2).take 2 := by rw [List.drop_take, List.take_take, Nat.min_eq_left (by omega)]
        by_cases hlt : n < fill8 (4 + p.2.length)
        · left
          rw [getGo, htl, if_neg h0, if_neg h4, t2, e2, if_pos hlt]
        · have hsp : (pieceB p ++ pieces l).take n = pieceB p ++ (pieces l).take (n - fill8 (4 + p.2.length)) := by
            rw [List.take_append, pieceB_length, List.take_of_length_le (by rw [pieceB_length]; omega)]
          rw [hsp]
          obtain ⟨g1, g2, g3, g4, g5⟩ := pieceB_parts p ((pieces l).take (n - fill8 (4 + p.2.length))) (hk p (by simp)) (by omega)
          have hl2 : (pieceB p ++ (pieces l).take (n - fill8 (4 + p.2.length))).length = n := by rw [← hsp, htl]
          have hstep : getGo (f + 1) last out (pieceB p ++ (pieces l).take (n - fill8 (4 + p.2.length))) = getGo f p.1 (out ++ [(p.1, p.2)]) ((pieces l).take (n - fill8 (4 + p.2.length))) := by
            rw [getGo, g1, g2, g3, g4, g5, hl2]
            rw [if_neg h0, if_neg h4, if_neg hlt, if_neg (by omega), if_neg (by simp [List.any_replicate]), if_neg (by simp at ho; omega)]
          rw [hstep]
          rcases getGo_prefix l f p.1 (out ++ [(p.1, p.2)]) (n - fill8 (4 + p.2.length)) (fun q hq => hk q (by simp [hq])) (fun q hq => hb q (by simp [hq])) hr.2 (by simp at ho ⊢; omega) (by omega) (by omega) with h | ⟨k, hk1, hk2, hk3⟩
          · exact .inl h
          · refine .inr ⟨k + 1, by simp; omega, ?_, ?_⟩
            · rw [hk2]; simp
            · rw [List.take_succ_cons, pieces, List.length_append, pieceB_length]; omega
/-- Get of a beginning of what Put makes: a beginning of the pieces, or short. -/
theorem paGet_prefix {l : List Piece} (hk : ∀ p ∈ l, okPiece p) (h : putE l = 0) (n : Nat) (hn : n ≤ (pieces l).length) :
    (paGet ((pieces l).take n)).1 = 5 ∨ ∃ k, k ≤ l.length ∧ paGet ((pieces l).take n) = (0, l.take k) ∧ (n = (pieces l).length ↔ k = l.length) := by
  unfold putE at h
  split at h
  · cases h
  · split at h
    · cases h
    · split at h
      · cases h
      · split at h
        · cases h
        · rename_i h1 h2 h3 h4
          have hb : ∀ p ∈ l, p.2.length ≤ 2048 := fun p hp => by
            have h5 : l.any (fun p => decide (2048 < p.2.length)) = false := by simpa using h3
            rw [List.any_eq_false] at h5
            have := h5 p hp
            simp at this; omega
          have htl : ((pieces l).take n).length = n := by rw [List.length_take]; omega
          rw [paGet, htl, if_neg (by omega)]
          rcases getGo_prefix l (n + 1) 0 [] n hk hb (by simpa using h1) (by simp; omega) hn (by omega) with h | ⟨k, hk1, hk2, hk3⟩
          · exact .inl h
          · refine .inr ⟨k, hk1, by rw [hk2]; simp, ?_⟩
            constructor
            · intro e
              rcases Nat.lt_or_ge k l.length with hlt | hge
              · exfalso
                have e1 := congrArg List.length (congrArg pieces (List.take_append_drop k l))
                rw [pieces_append, List.length_append] at e1
                obtain ⟨q, t, hq⟩ : ∃ q t, l.drop k = q :: t := by
                  cases hd : l.drop k with
                  | nil => have := congrArg List.length hd; simp at this; omega
                  | cons q t => exact ⟨q, t, rfl⟩
                have := pieces_pos q t
                rw [hq] at e1
                omega
              · omega
            · intro e
              subst e
              rw [hk3, List.take_of_length_le (Nat.le_refl _)]
end Go.Proofs.Ytpfgacaplmgmoaa
