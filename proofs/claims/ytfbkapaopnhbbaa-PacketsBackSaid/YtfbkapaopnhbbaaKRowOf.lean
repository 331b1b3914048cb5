/- A row whose first bytes are known. -/
import Derived.Test.YtfbkapaopnhbbaaKTwin
import Derived.Test.YtfbkapaopnhbbaaKRow
namespace Go.Proofs.Ytfbkapaopnhbbaa
open Go.RowKit
set_option linter.unusedSimpArgs false
set_option linter.unusedVariables false

/-- A row whose first bytes are known. -/
def RowOf (w : World) (g n : Nat) (y : List Int) : Prop := y.length = n ∧ ∃ cs, Blk w g 5 cs ∧ cs.take n = y.map (Value.int .u8)
theorem RowOf.cell {w : World} {g n : Nat} {y : List Int} (h : RowOf w g n y) {j : Nat} (hj : j < n) : w.cell? ⟨g, j, none⟩ = some (.int .u8 (y[j]?.getD 0)) := by
  obtain ⟨hl, cs, hb, ht⟩ := h
  rw [hb.cell, show cs[j]? = (cs.take n)[j]? by simp [List.getElem?_take, hj], ht]
  simp [show j < y.length by omega]
theorem RowOf.free {w : World} {g n : Nat} {y : List Int} (h : RowOf w g n y) (j : Nat) : w.frozen? ⟨g, j, none⟩ = false := by
  obtain ⟨_, cs, hb, _⟩ := h; exact hb.free j
theorem RowOf.put {w : World} {g n : Nat} {y : List Int} (h : RowOf w g n y) (j : Nat) (x : Int) : RowOf (w.setCell ⟨g, j, none⟩ (.int .u8 x)) g n (y.set j x) := by
  obtain ⟨hl, cs, hb, ht⟩ := h
  exact ⟨by simpa using hl, _, hb.put j _, by rw [List.take_set, ht, List.map_set]⟩
theorem RowOf.drew {w : World} {g n : Nat} {y : List Int} (h : RowOf w g n y) : RowOf w.drew g n y := h
theorem RowOf.rd {w : World} {g n : Nat} {y : List Int} (h : RowOf w g n y) (hy : isB y) (hn : n ≤ 140737488351232) : Rd w .u8 (some ⟨g, 0, none⟩) n y := by
  obtain ⟨hl, cs, hb, ht⟩ := h
  exact rd_of_in hb ht hy hl hn
theorem isB_set {l : List Int} (h : isB l) {i : Nat} {x : Int} (hx : 0 ≤ x ∧ x ≤ 255) : isB (l.set i x) := fun y hy => by
  rcases List.mem_or_eq_of_mem_set hy with hy | rfl
  · exact h y hy
  · exact hx
theorem isB_at {l : List Int} (h : isB l) (i : Nat) : 0 ≤ l[i]?.getD 0 ∧ l[i]?.getD 0 ≤ 255 := by
  rcases Nat.lt_or_ge i l.length with hi | hi
  · rw [List.getElem?_eq_getElem hi]; exact h _ (List.getElem_mem hi)
  · rw [List.getElem?_eq_none hi]; simp
end Go.Proofs.Ytfbkapaopnhbbaa
