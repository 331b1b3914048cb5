/- The plain laws of windows: what Fits answers of numbers that came, in lists and numbers alone. -/
import Derived.Test.YtoghekehaiglkaaWin
namespace Go.Proofs.Ytoghekehaiglkaa
open Go.RowKit
set_option linter.unusedSimpArgs false
set_option linter.unusedVariables false

theorem getD_set (l : List Int) (i j : Nat) (x : Int) (hi : i < l.length) : (l.set i x)[j]?.getD 0 = if i = j then x else l[j]?.getD 0 := by
  by_cases h : i = j
  · subst h; simp [hi]
  · simp [h]
theorem noCame_at (i : Nat) : noCame[i]?.getD 0 = 0 := by unfold noCame; rw [List.getElem?_replicate]; split <;> rfl
theorem mod64 (n : Int) : (n % 64).toNat < 64 := by omega

/-! ### Two windows, all numbers of the second moved by as much. -/
structure Moved (by_ : Int) (cA cB : List Int) (tA tB : Int) : Prop where
  la : cA.length = 64
  lb : cB.length = 64
  top : (tA = 0 ∧ tB = 0) ∨ (1 ≤ tA ∧ tB = tA + by_)
  came : ∀ n : Int, 0 ≤ n → cB[((n + by_) % 64).toNat]?.getD 0 = if cA[(n % 64).toNat]?.getD 0 = 0 then 0 else cA[(n % 64).toNat]?.getD 0 + by_
theorem moved_none (by_ : Int) : Moved by_ noCame noCame 0 0 := by
  refine ⟨rfl, rfl, .inl ⟨rfl, rfl⟩, fun n hn => ?_⟩
  simp [noCame_at]
theorem moved_fits {by_ : Int} {cA cB : List Int} {tA tB : Int} (h : Moved by_ cA cB tA tB) (n : Int) (hn : 1 ≤ n) (hb : 0 ≤ by_) : fits cB tB (n + by_) = fits cA tA n := by
  have hc := h.came n (by omega)
  have ht := h.top
  unfold fits
  simp only [if_neg (show ¬ n + by_ = 0 by omega), if_neg (show ¬ n = 0 by omega)]
  by_cases h1 : n < tA ∧ 64 ≤ tA - n
  · rw [if_pos h1, if_pos (by omega)]
  · rw [if_neg h1, if_neg (by omega), hc]
    by_cases h2 : cA[(n % 64).toNat]?.getD 0 = 0
    · rw [if_pos h2, if_neg (by omega), if_neg (by omega)]
    · rw [if_neg h2]
      by_cases h3 : cA[(n % 64).toNat]?.getD 0 = n
      · rw [if_pos (by omega), if_pos h3]
      · rw [if_neg (by omega), if_neg h3]
theorem moved_take {by_ : Int} {cA cB : List Int} {tA tB : Int} (h : Moved by_ cA cB tA tB) (n : Int) (hn : 1 ≤ n) (hb : 0 ≤ by_) :
    Moved by_ (takeCame cA tA n) (takeCame cB tB (n + by_)) (takeTop cA tA n) (takeTop cB tB (n + by_)) := by
  unfold takeCame takeTop
  rw [moved_fits h n hn hb]
  by_cases hf : fits cA tA n = 0
  · simp only [if_pos hf]
    refine ⟨by simp [h.la], by simp [h.lb], .inr ?_, fun m hm => ?_⟩
    · have := h.top; omega
    · rw [getD_set cA _ _ _ (by rw [h.la]; exact mod64 n), getD_set cB _ _ _ (by rw [h.lb]; exact mod64 _)]
      have hc := h.came m hm
      by_cases e : (n % 64).toNat = (m % 64).toNat
      · rw [if_pos e, if_pos (by omega), if_neg (by omega)]
      · rw [if_neg e, if_neg (by omega), hc]
  · simp only [if_neg hf]; exact h
theorem moved_taken {by_ : Int} {cA cB : List Int} {tA tB : Int} (h : Moved by_ cA cB tA tB) (n k : Int) (hn : 1 ≤ n) (hb : 0 ≤ by_) :
    takeTaken cB tB k (n + by_) = takeTaken cA tA k n := by
  unfold takeTaken; rw [moved_fits h n hn hb]

/-! ### A window and the list of what came. -/
structure Kept (c : List Int) (top : Int) (l : List Int) : Prop where
  len : c.length = 64
  top0 : 0 ≤ top
  topIn : top = 0 ∨ top ∈ l
  low : ∀ x ∈ l, 1 ≤ x ∧ x ≤ top ∧ x ≤ c[(x % 64).toNat]?.getD 0
  here : ∀ i : Nat, i < 64 → c[i]?.getD 0 = 0 ∨ (c[i]?.getD 0 ∈ l ∧ (c[i]?.getD 0 % 64).toNat = i)
theorem kept_none : Kept noCame 0 [] :=
  ⟨rfl, by omega, .inl rfl, by simp, fun i hi => .inl (noCame_at i)⟩
theorem kept_fits {c : List Int} {top : Int} {l : List Int} (h : Kept c top l) (n : Int) (hn : 0 ≤ n) :
    fits c top n = if n = 0 then 1 else if n < top ∧ 64 ≤ top - n then 13 else if n ∈ l then 8 else 0 := by
  unfold fits
  by_cases h0 : n = 0
  · simp [h0]
  · rw [if_neg h0, if_neg h0]
    by_cases h1 : n < top ∧ 64 ≤ top - n
    · rw [if_pos h1, if_pos h1]
    · rw [if_neg h1, if_neg h1]
      rcases h.here (n % 64).toNat (mod64 n) with hz | ⟨hm, hi⟩
      · have hnot : ¬ n ∈ l := fun hm => by have := (h.low n hm).2.2; omega
        rw [if_neg (by omega), if_neg hnot]
      · by_cases e : c[(n % 64).toNat]?.getD 0 = n
        · rw [if_pos e, if_pos (e ▸ hm)]
        · have hnot : ¬ n ∈ l := fun hm' => by
            have h1' := (h.low n hm').2.2
            have h2' := (h.low _ hm).2.1
            have h3' := (h.low _ hm).1
            omega
          rw [if_neg e, if_neg hnot]
theorem kept_take {c : List Int} {top : Int} {l : List Int} (h : Kept c top l) (n : Int) (hn : 0 ≤ n) :
    Kept (takeCame c top n) (takeTop c top n) (if fits c top n = 0 then l ++ [n] else l) := by
  unfold takeCame takeTop
  by_cases hf : fits c top n = 0
  · simp only [if_pos hf]
    have hk := kept_fits h n hn
    rw [hf] at hk
    have hn0 : n ≠ 0 := by intro e; rw [if_pos e] at hk; omega
    rw [if_neg hn0] at hk
    have hn1 : ¬ (n < top ∧ 64 ≤ top - n) := by intro e; rw [if_pos e] at hk; omega
    rw [if_neg hn1] at hk
    have hn2 : ¬ n ∈ l := by intro e; rw [if_pos e] at hk; omega
    have hm := mod64 n
    have ht := h.top0
    refine ⟨by simp [h.len], by omega, ?_, ?_, ?_⟩
    · rcases Int.le_total top n with e | e
      · right; rw [show max top n = n from by omega]; simp
      · rw [show max top n = top from by omega]
        rcases h.topIn with e' | e'
        · omega
        · right; simp [e']
    · intro x hx
      rw [getD_set _ _ _ _ (by rw [h.len]; exact hm)]
      rcases List.mem_append.1 hx with hx | hx
      · have h1 := h.low x hx
        refine ⟨h1.1, by omega, ?_⟩
        by_cases e : (n % 64).toNat = (x % 64).toNat
        · rw [if_pos e]
          -- the same place: n is not far below the top
          rcases h.here (x % 64).toNat (mod64 x) with hz | ⟨hm', hi⟩
          · omega
          · have h2 := h.low _ hm'
            have hne : x ≠ n := fun e => hn2 (e ▸ hx)
            omega
        · rw [if_neg e]; exact h1.2.2
      · obtain rfl : x = n := by simpa using hx
        rw [if_pos rfl]; omega
    · intro i hi
      rw [getD_set _ _ _ _ (by rw [h.len]; exact hm)]
      by_cases e : (n % 64).toNat = i
      · rw [if_pos e]; exact .inr ⟨by simp, e⟩
      · rw [if_neg e]
        rcases h.here i hi with hz | ⟨hm', hi'⟩
        · exact .inl hz
        · exact .inr ⟨by simp [hm'], hi'⟩
  · simp only [if_neg hf]; exact h
theorem fits_after {c : List Int} {top : Int} {l : List Int} (h : Kept c top l) (n : Int) (hn : 0 ≤ n) : fits (takeCame c top n) (takeTop c top n) n ≠ 0 := by
  have hk := kept_take h n hn
  rw [kept_fits hk n hn]
  by_cases hf : fits c top n = 0
  · rw [if_pos hf]
    simp only [List.mem_append, List.mem_singleton, or_true, if_true]
    split
    · omega
    · split <;> omega
  · rw [if_neg hf]
    have h2 := kept_fits h n hn
    rw [show takeTop c top n = top from by unfold takeTop; rw [if_neg hf], ← h2]
    exact hf
end Go.Proofs.Ytoghekehaiglkaa
