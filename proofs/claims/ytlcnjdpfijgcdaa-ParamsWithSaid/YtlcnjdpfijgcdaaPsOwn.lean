/- Pieces of the call's own: their row, and each body's row, all in blocks of their own. -/
import Derived.Test.YtlcnjdpfijgcdaaRowG
import Derived.Test.YtlcnjdpfijgcdaaKMay
namespace Go.Proofs.Ytlcnjdpfijgcdaa
open Go.RowKit
set_option linter.unusedSimpArgs false
set_option linter.unusedVariables false

structure PsOwn (base : Nat) (w : World) (v : Value) (ps : List Piece) (cells : List Value) : Prop where
  row : RowG 69 2 base w v ps.length cells
  body : ∀ (j : Nat) (t : Int) (body : List Int), ps[j]? = some (t, body) → ∃ B c, cells[j * 2]? = some (.int .u16 t) ∧ cells[j * 2 + 1]? = some (.slice B body.length c) ∧ RowG 5 1 base w (.slice B body.length c) body.length (body.map (Value.int .u8))
  unlike : ∀ (i j g n c n' c' : Nat), i ≠ j → cells[i * 2 + 1]? = some (.slice (some ⟨g, 0, none⟩) n c) → cells[j * 2 + 1]? ≠ some (.slice (some ⟨g, 0, none⟩) n' c')
section
variable {base : Nat} {w w' : World} {v : Value} {ps : List Piece} {cells : List Value}
theorem PsOwn.keep {M : Nat → Prop} (h : PsOwn base w v ps cells) (hk : Keeps M w w') (hM : ∀ k cur, base ≤ k → (w.heap[k]? = some (.cells cur 5 (0, 0)) ∨ w.heap[k]? = some (.cells cur 69 (0, 0))) → ¬ M k) : PsOwn base w' v ps cells :=
  ⟨h.row.keep hk (fun k hk2 => by obtain ⟨h1, _, cur, h2⟩ := h.row.ty hk2; exact hM k cur h1 (.inr h2)), fun j t body hj => by
    obtain ⟨B, c, h1, h2, h3⟩ := h.body j t body hj
    exact ⟨B, c, h1, h2, h3.keep hk (fun k hk2 => by obtain ⟨h1, _, cur, h2⟩ := h3.ty hk2; exact hM k cur h1 (.inl h2))⟩, h.unlike⟩
theorem PsOwn.below (h : PsOwn base w v ps cells) (hB : Below w.heap.size w w') : PsOwn base w' v ps cells := h.keep (Keeps.of_below (M := fun _ => False) hB) (fun _ _ _ _ h => h)
theorem PsOwn.keepLow {M : Nat → Prop} (h : PsOwn base w v ps cells) (hk : Keeps M w w') (hM : ∀ i, M i → i < base) : PsOwn base w' v ps cells := h.keep hk (fun k _ hb _ hm => by have := hM k hm; omega)
theorem PsOwn.keepTy {M : Nat → Prop} {T : TypeId} {base' : Nat} (h : PsOwn base w v ps cells) (hk : Keeps M w w') (hM : ∀ i, M i → ByTy base' T w i) (h1 : 5 ≠ T) (h2 : 69 ≠ T) : PsOwn base w' v ps cells := h.keep hk (fun k cur _ ht hm => by
  rcases hM k hm with ⟨_, cur2, h3⟩ | h3
  · rcases ht with ht | ht
    · exact h1 (ty_one ht h3)
    · exact h2 (ty_one ht h3)
  · have : k < w.heap.size := by rcases ht with ht | ht <;> exact (Array.getElem?_eq_some_iff.1 ht).1
    omega)
theorem PsOwn.lower {base' : Nat} (h : PsOwn base w v ps cells) (hb : base' ≤ base) : PsOwn base' w v ps cells :=
  ⟨h.row.lower hb, fun j t body hj => by
    obtain ⟨B, c, h1, h2, h3⟩ := h.body j t body hj
    exact ⟨B, c, h1, h2, h3.lower hb⟩, h.unlike⟩
theorem RowG.none_cap {E : TypeId} {q base : Nat} {w : World} {n c : Nat} {cs : List Value} (h : RowG E q base w (.slice none n c) n cs) : n = 0 ∧ c = 0 := by
  obtain ⟨A, c1, c', e, h1, h2, h3⟩ := h
  injection e with e1 _ e2
  subst e1; subst e2
  rcases h3.2 with ⟨h4, h5⟩ | ⟨g, cap, cur, h4, _⟩
  · injection h4 with _ _ h4
    omega
  · injection h4 with h4 _ _
    cases h4
theorem RowG.rd {base : Nat} {w : World} {A : Option Addr} {n c : Nat} {xs : List Int} (h : RowG 5 1 base w (.slice A n c) n (xs.map (Value.int .u8))) (hb : ∀ x ∈ xs, 0 ≤ x ∧ x ≤ 255) (hn : n ≤ 140737488351232) : Rd w .u8 A n xs := by
  have hl : xs.length = n := by have := h.len; simpa using this
  refine ⟨hl, hn, bytes_wf hb, fun h0 => ?_⟩
  obtain ⟨g, c1, e, _, _, hg, hc, _⟩ := h.at_ h0
  injection e with e _ _
  subst e
  refine ⟨g, 0, rfl, hg, fun j hj => ?_⟩
  rw [Nat.zero_add]
  exact hc j _ (by simp [show j < xs.length by omega])
theorem RowG.room {E : TypeId} {q base : Nat} {w : World} {A : Option Addr} {n c : Nat} {cs : List Value} (h : RowG E q base w (.slice A n c) n cs) : n ≤ c := by
  obtain ⟨A1, c1, e, h1⟩ := h.slice
  injection e with _ _ e
  omega
theorem PsOwn.asPs {A : Option Addr} {n c : Nat} (h : PsOwn base w (.slice A n c) ps cells) (hn : ps.length = n) (hbig : n ≤ 4398046510976) (hok : ∀ p ∈ ps, okPiece p) (hlen : ∀ p ∈ ps, p.2.length ≤ 140737488351232) : Ps w A n ps := by
  refine ⟨hn, hbig, fun h0 => ?_⟩
  obtain ⟨g, c1, e, _, _, hg, hc, _⟩ := h.row.at_ (by omega)
  injection e with e _ _
  subst e
  refine ⟨g, 0, rfl, hg, fun j hj => ?_⟩
  have hj' : j < ps.length := by omega
  obtain ⟨p, hp⟩ : ∃ p, ps[j] = p := ⟨_, rfl⟩
  obtain ⟨t, body⟩ := p
  have hjj : ps[j]? = some (t, body) := by rw [List.getElem?_eq_getElem hj', hp]
  have hm : (t, body) ∈ ps := List.mem_of_getElem? hjj
  obtain ⟨B, cb, h1, h2, h3⟩ := h.body j t body hjj
  have hk := hok _ hm
  refine ⟨t, body, B, body.length, cb, hjj, ⟨hk.1, hk.2.1⟩, by rw [Nat.zero_add]; exact hc _ _ h1, by rw [Nat.zero_add]; exact hc _ _ h2, h3.rd hk.2.2 (hlen _ hm), h3.room, fun e => ?_⟩
  subst e
  exact h3.none_cap.2
end
end Go.Proofs.Ytlcnjdpfijgcdaa
