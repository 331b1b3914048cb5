/- WindowsNone: a window that is not there, or that no call made, takes nothing and tells nothing. For every number. -/
import Derived.Test.YtoghekehaiglkaaWin
namespace Go.Proofs.Ytoghekehaiglkaa
open Go.RowKit
set_option linter.unusedSimpArgs false
set_option linter.unusedVariables false

set_option maxHeartbeats 400000 in
theorem windowsNone_walk (n : Int) (w : World) (hn : (Lit.int .u64 n).wf = true) : Calls Try.prog 3 #[.int .u64 n] w fun e w' => e = .returned (.bool true) ∧ Below w.heap.size w w' := by
  have hW : Blk (w.alloc (.cells (winCells 0 noCame 0 0).toArray 27 (0, 0))) w.heap.size 27 (winCells 0 noCame 0 0) := Blk.new _ _ _
  have hc := (Blk.alloc hW (.cells #[.pointer none, .pointer (some ⟨w.heap.size, 0, none⟩)] 23 (0, 0))).cell 0
  go_enter Try.func3, Try.ntmps3
  go_wp2_with (refine wpList_value (o := ⟨some 5, .build 27 _, _, _, _, _⟩) (v := .agg (winCells 0 noCame 0 0).toArray) (w' := w) rfl (by kernel_rfl) ?_)
  go_loop [4] (fun i => i = .int .i64 0 ∨ i = .int .i64 1 ∨ i = .int .i64 2) (fun i => 2 - (intOf i).toNat)
  case atStart => exact .inl rfl
  case round =>
    rcases hrel with rfl | rfl | rfl
    · go_wp2_with (first
        | (go_at_call 9; refine (fits_nil _ _).mono ?_; rintro e w' ⟨rfl, rfl⟩)
        | (go_at_call 10; refine (take_nil _ _).mono ?_; rintro e w' ⟨rfl, rfl⟩)
        | (go_at_call 11; refine (top_nil _).mono ?_; rintro e w' ⟨rfl, rfl⟩)
        | (go_at_call 12; refine (taken_nil _).mono ?_; rintro e w' ⟨rfl, rfl⟩))
      go_round
      case rel => exact .inr (.inl rfl)
      case measure => simp [intOf]
    · go_wp2_with (first
        | (go_at_call 9; refine (fits_not _ _ _ hc).mono ?_; rintro e w' ⟨rfl, rfl⟩)
        | (go_at_call 10; refine (take_not _ _ _ hc).mono ?_; rintro e w' ⟨rfl, rfl⟩)
        | (go_at_call 11; refine (top_not _ _ hc).mono ?_; rintro e w' ⟨rfl, rfl⟩)
        | (go_at_call 12; refine (taken_not _ _ hc).mono ?_; rintro e w' ⟨rfl, rfl⟩))
      go_round
      case rel => exact .inr (.inr rfl)
      case measure => simp [intOf]
    · go_wp2_with fail
      go_ret
      exact ⟨rfl, ((Below.refl _ _).alloc (Nat.le_refl _) _).alloc (by simp) _⟩
end Go.Proofs.Ytoghekehaiglkaa
