/- With, Find, Below of pieces: plain laws on lists. -/
import Derived.Test.YtlcnjdpfijgcdaaKPieces
namespace Go.Proofs.Ytlcnjdpfijgcdaa
set_option linter.unusedSimpArgs false
set_option linter.unusedVariables false

/-- The body of a type. -/
def paFind (ps : List Piece) (t : Int) : Option (List Int) := (ps.find? (fun p => p.1 == t)).map (·.2)
/-- Those of lesser types. -/
def paBelow (ps : List Piece) (t : Int) : List Piece := ps.filter (fun p => decide (p.1 < t))
def paAbove (ps : List Piece) (t : Int) : List Piece := ps.filter (fun p => decide (t < p.1))
/-- What With answers. -/
def withE (ps : List Piece) (t : Int) : Int :=
  if rises 0 ps = false then 1 else if t = 0 then 1 else if (paFind ps t).isSome then 8 else if 16 ≤ ps.length then 3 else 0
def withL (ps : List Piece) (p : Piece) : List Piece := paBelow ps p.1 ++ p :: paAbove ps p.1

theorem paFind_none {ps : List Piece} {t : Int} : paFind ps t = none ↔ ∀ p ∈ ps, p.1 ≠ t := by
  simp [paFind]
theorem paFind_some {ps : List Piece} {t : Int} : (paFind ps t).isSome = true ↔ ∃ p ∈ ps, p.1 = t := by
  simp [paFind]
theorem rises_lt : ∀ {ps : List Piece} {last : Int}, rises last ps = true → ∀ p ∈ ps, last < p.1
  | [], _, _, p, hp => by simp at hp
  | q :: ps, last, h, p, hp => by
    simp only [rises, Bool.and_eq_true, decide_eq_true_eq] at h
    rcases List.mem_cons.1 hp with rfl | hp
    · exact h.1
    · exact Int.lt_trans h.1 (rises_lt h.2 p hp)
theorem rises_at : ∀ {ps : List Piece} {last : Int}, rises last ps = true → ∀ (i j : Nat) (p q : Piece), i < j → ps[i]? = some p → ps[j]? = some q → p.1 < q.1
  | [], _, _, i, j, p, q, _, h, _ => by simp at h
  | r :: ps, last, h, 0, j + 1, p, q, _, h1, h2 => by
    simp only [rises, Bool.and_eq_true, decide_eq_true_eq] at h
    simp only [List.getElem?_cons_zero, Option.some.injEq] at h1
    subst h1
    exact rises_lt h.2 q (List.mem_of_getElem? (by simpa using h2))
  | r :: ps, last, h, i + 1, j + 1, p, q, hij, h1, h2 => by
    simp only [rises, Bool.and_eq_true, decide_eq_true_eq] at h
    exact rises_at h.2 i j p q (by omega) (by simpa using h1) (by simpa using h2)
/-- A place with lesser types ahead of it, and no lesser ones behind. -/
theorem below_take {ps : List Piece} {t : Int} {i : Nat} (h1 : ∀ k p, k < i → ps[k]? = some p → p.1 < t) (h2 : ∀ k p, i ≤ k → ps[k]? = some p → t ≤ p.1) : paBelow ps t = ps.take i := by
  conv => lhs; rw [← List.take_append_drop i ps]
  rw [paBelow, List.filter_append, List.filter_eq_self.2, List.filter_eq_nil_iff.2, List.append_nil]
  · intro p hp
    obtain ⟨k, hk⟩ := List.mem_iff_getElem?.1 hp
    rw [List.getElem?_drop] at hk
    have := h2 _ p (by omega) hk
    simp; omega
  · intro p hp
    obtain ⟨k, hk⟩ := List.mem_iff_getElem?.1 hp
    have hki : k < i := by
      have := (List.getElem?_eq_some_iff.1 hk).1
      simp at this; omega
    rw [List.getElem?_take, if_pos hki] at hk
    simpa using h1 k p hki hk
theorem above_drop {ps : List Piece} {t : Int} {i : Nat} (h1 : ∀ k p, k < i → ps[k]? = some p → p.1 < t) (h2 : ∀ k p, i ≤ k → ps[k]? = some p → t < p.1) : paAbove ps t = ps.drop i := by
  conv => lhs; rw [← List.take_append_drop i ps]
  rw [paAbove, List.filter_append, List.filter_eq_nil_iff.2, List.filter_eq_self.2, List.nil_append]
  · intro p hp
    obtain ⟨k, hk⟩ := List.mem_iff_getElem?.1 hp
    rw [List.getElem?_drop] at hk
    simpa using h2 _ p (by omega) hk
  · intro p hp
    obtain ⟨k, hk⟩ := List.mem_iff_getElem?.1 hp
    have hki : k < i := by
      have := (List.getElem?_eq_some_iff.1 hk).1
      simp at this; omega
    rw [List.getElem?_take, if_pos hki] at hk
    have := h1 k p hki hk
    simp; omega
theorem below_le (ps : List Piece) (t : Int) : (paBelow ps t).length ≤ ps.length := List.length_filter_le _ _
/-- The place of a type among rising ones. -/
theorem place_of : ∀ {ps : List Piece} {last : Int} (t : Int), rises last ps = true → (∀ k p, k < (paBelow ps t).length → ps[k]? = some p → p.1 < t) ∧ (∀ k p, (paBelow ps t).length ≤ k → ps[k]? = some p → t ≤ p.1)
  | [], _, t, _ => ⟨fun k p hk => by simp [paBelow] at hk, fun k p _ h => by simp at h⟩
  | q :: ps, last, t, h => by
    simp only [rises, Bool.and_eq_true, decide_eq_true_eq] at h
    obtain ⟨ih1, ih2⟩ := place_of t h.2
    by_cases hq : q.1 < t
    · have e : paBelow (q :: ps) t = q :: paBelow ps t := by simp [paBelow, hq]
      rw [e, List.length_cons]
      refine ⟨fun k p hk hp => ?_, fun k p hk hp => ?_⟩
      · cases k with
        | zero => simp at hp; subst hp; exact hq
        | succ k => exact ih1 k p (by omega) (by simpa using hp)
      · cases k with
        | zero => omega
        | succ k => exact ih2 k p (by omega) (by simpa using hp)
    · have e : paBelow (q :: ps) t = [] := by
        simp only [paBelow, List.filter_eq_nil_iff, List.mem_cons]
        rintro p (rfl | hp)
        · simpa using hq
        · have := rises_lt h.2 p hp
          simp; omega
      rw [e]
      refine ⟨fun k p hk hp => by simp at hk, fun k p hk hp => ?_⟩
      cases k with
      | zero => simp at hp; subst hp; omega
      | succ k =>
        have := rises_lt h.2 p (List.mem_of_getElem? (by simpa using hp))
        omega
theorem below_eq {ps : List Piece} {last t : Int} (h : rises last ps = true) : paBelow ps t = ps.take (paBelow ps t).length := below_take (place_of t h).1 (place_of t h).2
theorem above_eq {ps : List Piece} {last t : Int} (h : rises last ps = true) (hf : paFind ps t = none) : paAbove ps t = ps.drop (paBelow ps t).length :=
  above_drop (place_of t h).1 (fun k p hk hp => by
    have h1 := (place_of t h).2 k p hk hp
    have h2 := paFind_none.1 hf p (List.mem_of_getElem? hp)
    omega)
theorem withL_eq {ps : List Piece} {last : Int} {p : Piece} (h : rises last ps = true) (hf : paFind ps p.1 = none) : withL ps p = ps.take (paBelow ps p.1).length ++ p :: ps.drop (paBelow ps p.1).length := by
  rw [withL, ← below_eq h, above_eq h hf]
theorem withL_length {ps : List Piece} {last : Int} {p : Piece} (h : rises last ps = true) (hf : paFind ps p.1 = none) : (withL ps p).length = ps.length + 1 := by
  rw [withL_eq h hf]
  have := below_le ps p.1
  simp; omega
theorem rises_with : ∀ {ps : List Piece} {last : Int} {p : Piece}, rises last ps = true → last < p.1 → paFind ps p.1 = none → rises last (withL ps p) = true
  | [], last, p, _, hl, _ => by simp [withL, paBelow, paAbove, rises, hl]
  | q :: ps, last, p, h, hl, hf => by
    have h' := h
    simp only [rises, Bool.and_eq_true, decide_eq_true_eq] at h
    have hne : q.1 ≠ p.1 := paFind_none.1 hf q (by simp)
    have hf' : paFind ps p.1 = none := paFind_none.2 (fun r hr => paFind_none.1 hf r (by simp [hr]))
    by_cases hq : q.1 < p.1
    · have e : withL (q :: ps) p = q :: withL ps p := by simp [withL, paBelow, paAbove, hq, show ¬ p.1 < q.1 by omega]
      rw [e, rises, decide_eq_true h.1, Bool.true_and]
      exact rises_with h.2 hq hf'
    · have e1 : paBelow (q :: ps) p.1 = [] := by
        simp only [paBelow, List.filter_eq_nil_iff, List.mem_cons]
        rintro r (rfl | hr)
        · simpa using hq
        · have := rises_lt h.2 r hr
          simp; omega
      have e2 := above_eq h' hf
      rw [e1] at e2
      rw [withL, e1, e2]
      simp only [List.length_nil, List.drop_zero, List.nil_append, rises, Bool.and_eq_true, decide_eq_true_eq]
      exact ⟨hl, by omega, h.2⟩
theorem find_with {ps : List Piece} {p : Piece} (hf : paFind ps p.1 = none) : paFind (withL ps p) p.1 = some p.2 := by
  have h0 : (paBelow ps p.1).find? (fun q => q.1 == p.1) = none := by
    rw [List.find?_eq_none]
    intro q hq
    have := (List.mem_filter.1 hq).2
    simp at this ⊢; omega
  simp [paFind, withL, List.find?_append, h0]
theorem below_with {ps : List Piece} {p : Piece} : paBelow (withL ps p) p.1 = paBelow ps p.1 := by
  have h1 : (paAbove ps p.1).filter (fun q => decide (q.1 < p.1)) = [] := by
    rw [List.filter_eq_nil_iff]
    intro q hq
    have := (List.mem_filter.1 hq).2
    simp at this ⊢; omega
  unfold paBelow withL
  rw [List.filter_append, List.filter_cons_of_neg (by simp)]
  unfold paBelow
  rw [h1, List.append_nil, List.filter_filter]
  simp
theorem with_head (ps : List Piece) (p : Piece) : (withL ps p).take (paBelow ps p.1).length = paBelow ps p.1 := by simp [withL]
theorem with_mid (ps : List Piece) (p : Piece) : (withL ps p)[(paBelow ps p.1).length]? = some p := by simp [withL]
theorem with_tail {ps : List Piece} {last : Int} {p : Piece} (h : rises last ps = true) (hf : paFind ps p.1 = none) : (withL ps p).drop ((paBelow ps p.1).length + 1) = ps.drop (paBelow ps p.1).length := by
  rw [withL, above_eq h hf, List.drop_append]
  simp
theorem okPiece_below {ps : List Piece} {t : Int} (h : ∀ p ∈ ps, okPiece p) : ∀ p ∈ paBelow ps t, okPiece p := fun p hp => h p (List.mem_filter.1 hp).1
theorem okPiece_with {ps : List Piece} {p : Piece} (h : ∀ q ∈ ps, okPiece q) (hp : okPiece p) : ∀ q ∈ withL ps p, okPiece q := fun q hq => by
  simp only [withL, List.mem_append, List.mem_cons] at hq
  rcases hq with hq | rfl | hq
  · exact h q (List.mem_filter.1 hq).1
  · exact hp
  · exact h q (List.mem_filter.1 hq).1
theorem withE_cases (ps : List Piece) (t : Int) : (withE ps t = 1 ∧ (rises 0 ps = false ∨ t = 0)) ∨ (rises 0 ps = true ∧ t ≠ 0 ∧ (paFind ps t).isSome = true ∧ withE ps t = 8) ∨ (rises 0 ps = true ∧ t ≠ 0 ∧ paFind ps t = none ∧ 16 ≤ ps.length ∧ withE ps t = 3) ∨ (rises 0 ps = true ∧ t ≠ 0 ∧ paFind ps t = none ∧ ps.length < 16 ∧ withE ps t = 0) := by
  unfold withE
  by_cases h1 : rises 0 ps = false
  · simp [h1]
  · by_cases h2 : t = 0
    · simp [h1, h2]
    · cases h3 : paFind ps t with
      | some b => right; left; simp [h1, h2]
      | none =>
        by_cases h4 : 16 ≤ ps.length
        · right; right; left; simp [h1, h2, h4]
        · right; right; right; simp [h1, h2, h4]; omega
end Go.Proofs.Ytlcnjdpfijgcdaa
