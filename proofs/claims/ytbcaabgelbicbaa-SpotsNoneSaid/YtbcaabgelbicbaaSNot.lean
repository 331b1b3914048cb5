/- A set of spots that is not there: what its functions answer. -/
import Derived.Test.YtbcaabgelbicbaaBase
import Derived.WalkMore
namespace Go.Proofs.Ytbcaabgelbicbaa
open Go.RowKit
set_option linter.unusedSimpArgs false
set_option linter.unusedVariables false

/-- A pointer to no set, or to one that no call made. -/
def NotThere (p : Value) (w : World) : Prop := p = .pointer none ∨ ∃ b, p = .pointer (some ⟨b, 0, none⟩) ∧ b < w.heap.size ∧ w.cell? ⟨b, 0, none⟩ = some (.slice none 0 0)
theorem NotThere.below {p : Value} {w w' : World} (h : NotThere p w) (hB : Below w.heap.size w w') : NotThere p w' := by
  rcases h with h | ⟨b, h, hb, hc⟩
  · exact .inl h
  · exact .inr ⟨b, h, Nat.lt_of_lt_of_le hb hB.size, (hB.cell (p := ⟨b, 0, none⟩) hb).trans hc⟩
theorem g_new_below (w : World) (o : Obj) : Below w.heap.size w (w.alloc o) := (Below.refl _ _).alloc (Nat.le_refl _) _

theorem there_not {p : Value} {w : World} (h : NotThere p w) : Calls Try.prog 12 #[p] w fun e w' => e = .returned (.bool false) ∧ w = w' := by
  rcases h with rfl | ⟨b, rfl, hb, hc⟩
  · go_enter Try.func12, Try.ntmps12
    go_wp2_with fail
    go_ret
    exact ⟨rfl, rfl⟩
  · go_enter Try.func12, Try.ntmps12
    go_wp2_with fail
    go_ret
    exact ⟨rfl, rfl⟩
theorem change_not {p : Value} {w : World} (A : Option Addr) (n c : Nat) (h : NotThere p w) : Calls Try.prog 4 #[p, .slice A n c] w fun e w' => e = .returned (.tuple #[.slice none 0 0, .int .i64 2]) ∧ Below w.heap.size w w' := by
  have H := Lib.hid h
  clear h
  go_enter Try.func4, Try.ntmps4
  go_wp2_with fail
  refine (there_not H.out).mono ?_
  rintro e w' ⟨rfl, rfl⟩
  go_wp2_with fail
  go_ret2
  exact ⟨rfl, Below.refl _ _⟩
theorem best_not {p : Value} {w : World} (h : NotThere p w) : Calls Try.prog 6 #[p] w fun e w' => e = .returned (.tuple #[.int .u32 0, .bool false]) ∧ Below w.heap.size w w' := by
  have H := Lib.hid h
  clear h
  go_enter Try.func6, Try.ntmps6
  go_wp2_with fail
  go_step3
  go_wp2_with fail
  refine (there_not H.out).mono ?_
  rintro e w' ⟨rfl, rfl⟩
  go_wp2_with fail
  rw [Exit.noGoto_ret]
  go_ret2
  exact ⟨rfl, Below.refl _ _⟩
theorem came_not {p : Value} {w : World} (n : Int) (h : NotThere p w) : Calls Try.prog 7 #[p, .int .i64 n] w fun e w' => e = .returned (.tuple #[]) ∧ Below w.heap.size w w' := by
  have H := Lib.hid h
  clear h
  go_enter Try.func7, Try.ntmps7
  go_wp2_with fail
  refine (there_not H.out).mono ?_
  rintro e w' ⟨rfl, rfl⟩
  go_wp2_with fail
  refine bodyPost_end (results_none rfl _ _ _) rfl ?_
  exact ⟨rfl, Below.refl _ _⟩
theorem list_not {p : Value} {w : World} (h : NotThere p w) : Calls Try.prog 10 #[p] w fun e w' => e = .returned (.slice none 0 0) ∧ Below w.heap.size w w' := by
  have H := Lib.hid h
  clear h
  go_enter Try.func10, Try.ntmps10
  go_wp2_with fail
  refine (there_not H.out).mono ?_
  rintro e w' ⟨rfl, rfl⟩
  go_wp2_with fail
  go_ret
  exact ⟨rfl, Below.refl _ _⟩
theorem spend_not {p : Value} {w : World} (n : Int) (h : NotThere p w) : Calls Try.prog 11 #[p, .int .i64 n] w fun e w' => e = .returned (.int .i64 2) ∧ Below w.heap.size w w' := by
  have H := Lib.hid h
  clear h
  go_enter Try.func11, Try.ntmps11
  go_wp2_with fail
  refine (there_not H.out).mono ?_
  rintro e w' ⟨rfl, rfl⟩
  go_wp2_with fail
  go_ret
  exact ⟨rfl, Below.refl _ _⟩
theorem state_not {p : Value} {w : World} (a : Int) (h : NotThere p w) : Calls Try.prog 9 #[p, .int .u32 a] w fun e w' => e = .returned (.int .u8 0) ∧ Below w.heap.size w w' := by
  have H := Lib.hid h
  clear h
  go_enter Try.func9, Try.ntmps9
  go_wp2_with fail
  refine (there_not H.out).mono ?_
  rintro e w' ⟨rfl, rfl⟩
  go_wp2_with fail
  go_ret
  exact ⟨rfl, Below.refl _ _⟩
theorem back_not {p : Value} {w : World} (sum : List Int) (h : NotThere p w) : Calls Try.prog 5 #[p, .agg (sum.map (Value.int .u8)).toArray] w fun e w' => e = .returned (.tuple #[.int .u32 0, .int .i64 2]) ∧ Below w.heap.size w w' := by
  have hB := g_new_below w (.cells (sum.map (Value.int .u8)).toArray 26)
  have H := Lib.hid (h.below hB)
  have HB := Lib.hid hB
  clear h hB
  obtain ⟨cs, hcs⟩ : ∃ cs, (sum.map (Value.int .u8)).toArray = cs := ⟨_, rfl⟩
  rw [hcs] at H HB ⊢
  clear hcs
  go_enter Try.func5, Try.ntmps5
  go_wp2_with fail
  refine (there_not H.out).mono ?_
  rintro e w' ⟨rfl, rfl⟩
  go_wp2_with fail
  go_ret2
  exact ⟨rfl, HB.out⟩
theorem ask_not {p : Value} {w : World} (a : Int) (sum : List Int) (h : NotThere p w) : Calls Try.prog 8 #[p, .int .u32 a, .agg (sum.map (Value.int .u8)).toArray] w fun e w' => e = .returned (.int .i64 2) ∧ Below w.heap.size w w' := by
  have hB := g_new_below w (.cells (sum.map (Value.int .u8)).toArray 26)
  have H := Lib.hid (h.below hB)
  have HB := Lib.hid hB
  clear h hB
  obtain ⟨cs, hcs⟩ : ∃ cs, (sum.map (Value.int .u8)).toArray = cs := ⟨_, rfl⟩
  rw [hcs] at H HB ⊢
  clear hcs
  go_enter Try.func8, Try.ntmps8
  go_wp2_with fail
  refine (there_not H.out).mono ?_
  rintro e w' ⟨rfl, rfl⟩
  go_wp2_with fail
  go_ret
  exact ⟨rfl, HB.out⟩
end Go.Proofs.Ytbcaabgelbicbaa
