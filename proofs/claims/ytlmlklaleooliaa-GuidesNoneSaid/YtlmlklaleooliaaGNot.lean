/- A table of guides that is not there: what its functions answer. -/
import Derived.Test.YtlmlklaleooliaaBase
namespace Go.Proofs.Ytlmlklaleooliaa
open Go.RowKit
set_option linter.unusedSimpArgs false
set_option linter.unusedVariables false

/-- A pointer to no table, or to one that no call made. -/
def NotThere (p : Value) (w : World) : Prop := p = .pointer none ∨ ∃ b, p = .pointer (some ⟨b, 0, none⟩) ∧ b < w.heap.size ∧ w.cell? ⟨b, 144, none⟩ = some (.int .i64 0)
theorem NotThere.below {p : Value} {w w' : World} (h : NotThere p w) (hB : Below w.heap.size w w') : NotThere p w' := by
  rcases h with h | ⟨b, h, hb, hc⟩
  · exact .inl h
  · exact .inr ⟨b, h, Nat.lt_of_lt_of_le hb hB.size, (hB.cell (p := ⟨b, 144, none⟩) hb).trans hc⟩
theorem g_new_below (w : World) (o : Obj) : Below w.heap.size w (w.alloc o) := (Below.refl _ _).alloc (Nat.le_refl _) _

theorem there_not {p : Value} {w : World} (h : NotThere p w) : Calls Try.prog 25 #[p] w fun e w' => e = .returned (.bool false) ∧ w = w' := by
  rcases h with rfl | ⟨b, rfl, hb, hc⟩
  · go_enter Try.func25, Try.ntmps25
    go_wp2_with fail
    go_ret
    exact ⟨rfl, rfl⟩
  · go_enter Try.func25, Try.ntmps25
    go_wp2_with fail
    go_ret
    exact ⟨rfl, rfl⟩
theorem tick_not {p : Value} {w : World} (h : NotThere p w) : Calls Try.prog 8 #[p] w fun e w' => e = .returned (.tuple #[]) ∧ w = w' := by
  have H := Lib.hid h
  clear h
  go_enter Try.func8, Try.ntmps8
  go_wp2_with fail
  refine (there_not H.out).mono ?_
  rintro e w' ⟨rfl, rfl⟩
  go_wp2_with fail
  refine bodyPost_ret (results_none rfl _ _ _) rfl ?_
  exact ⟨rfl, rfl⟩
theorem len_not {p : Value} {w : World} (h : NotThere p w) : Calls Try.prog 12 #[p] w fun e w' => e = .returned (.int .i64 0) ∧ w = w' := by
  have H := Lib.hid h
  clear h
  go_enter Try.func12, Try.ntmps12
  go_wp2_with fail
  refine (there_not H.out).mono ?_
  rintro e w' ⟨rfl, rfl⟩
  go_wp2_with fail
  go_ret
  exact ⟨rfl, rfl⟩
theorem get_not {p : Value} {w : World} (tag : List Int) (h : NotThere p w) : Calls Try.prog 9 #[p, .agg (tag.map (Value.int .u8)).toArray] w fun e w' => e = .returned (.tuple #[.int .u32 0, .int .i64 2]) ∧ Below w.heap.size w w' := by
  have hB := g_new_below w (.cells (tag.map (Value.int .u8)).toArray 23)
  have H := Lib.hid (h.below hB)
  have HB := Lib.hid hB
  clear h hB
  obtain ⟨cs, hcs⟩ : ∃ cs, (tag.map (Value.int .u8)).toArray = cs := ⟨_, rfl⟩
  rw [hcs] at H HB ⊢
  clear hcs
  go_enter Try.func9, Try.ntmps9
  go_wp2_with fail
  refine (there_not H.out).mono ?_
  rintro e w' ⟨rfl, rfl⟩
  go_wp2_with fail
  go_ret2
  exact ⟨rfl, HB.out⟩
theorem room_not {p : Value} {w : World} (tag : List Int) (h : NotThere p w) : Calls Try.prog 11 #[p, .agg (tag.map (Value.int .u8)).toArray] w fun e w' => e = .returned (.int .u32 0) ∧ Below w.heap.size w w' := by
  have hB := g_new_below w (.cells (tag.map (Value.int .u8)).toArray 23)
  have H := Lib.hid (h.below hB)
  have HB := Lib.hid hB
  clear h hB
  obtain ⟨cs, hcs⟩ : ∃ cs, (tag.map (Value.int .u8)).toArray = cs := ⟨_, rfl⟩
  rw [hcs] at H HB ⊢
  clear hcs
  go_enter Try.func11, Try.ntmps11
  go_wp2_with fail
  refine (there_not H.out).mono ?_
  rintro e w' ⟨rfl, rfl⟩
  go_wp2_with fail
  go_ret
  exact ⟨rfl, HB.out⟩
theorem put_not {p : Value} {w : World} (tag : List Int) (s t : Int) (h : NotThere p w) : Calls Try.prog 10 #[p, .agg (tag.map (Value.int .u8)).toArray, .int .u32 s, .int .u32 t] w fun e w' => e = .returned (.int .i64 2) ∧ Below w.heap.size w w' := by
  have hB := g_new_below w (.cells (tag.map (Value.int .u8)).toArray 23)
  have H := Lib.hid (h.below hB)
  have HB := Lib.hid hB
  clear h hB
  obtain ⟨cs, hcs⟩ : ∃ cs, (tag.map (Value.int .u8)).toArray = cs := ⟨_, rfl⟩
  rw [hcs] at H HB ⊢
  clear hcs
  go_enter Try.func10, Try.ntmps10
  go_wp2_with fail
  refine (there_not H.out).mono ?_
  rintro e w' ⟨rfl, rfl⟩
  go_wp2_with fail
  go_ret
  exact ⟨rfl, HB.out⟩
end Go.Proofs.Ytlmlklaleooliaa
