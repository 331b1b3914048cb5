/- alive of the windows' laws: it answers true. -/
import Derived.Test.YtoghekehaiglkaaWin
namespace Go.Proofs.Ytoghekehaiglkaa
open Go.RowKit
set_option linter.unusedSimpArgs false
set_option linter.unusedVariables false

def came1 : List Int := noCame.set 5 5
def came2 : List Int := came1.set 3 3
def came3 : List Int := came2.set 6 70
def came4 : List Int := came3.set 7 7

set_option maxHeartbeats 1000000 in
theorem alive_true (w0 : World) : Calls Try.prog 19 #[] w0 fun e w' => e = .returned (.bool true) ∧ Below w0.heap.size w0 w' := by
  go_enter Try.func19, Try.ntmps19
  go_wp2_with fail
  refine (new_made _).mono ?_; rintro e w1 ⟨rfl, W1, B1⟩
  go_wp2_with fail
  refine (take_step w0 _ _ noCame came1 0 5 0 1 5 0 W1 B1 (Nat.le_refl _) (by omega) (by omega) (by omega) (by omega) (by omega) (by decide) (by decide) (by decide) (by decide)).mono ?_; rintro e w2 ⟨rfl, W2, B2, -⟩
  clear W1 B1 w1
  go_wp2_with fail
  refine (take_step w0 _ _ came1 came2 5 5 1 2 3 0 W2 B2 (Nat.le_refl _) (by omega) (by omega) (by omega) (by omega) (by omega) (by decide) (by decide) (by decide) (by decide)).mono ?_; rintro e w3 ⟨rfl, W3, B3, -⟩
  clear W2 B2 w2
  go_wp2_with fail
  refine (take_step w0 _ _ came2 came2 5 5 2 2 3 8 W3 B3 (Nat.le_refl _) (by omega) (by omega) (by omega) (by omega) (by omega) (by decide) (by decide) (by decide) (by decide)).mono ?_; rintro e w4 ⟨rfl, W4, B4, -⟩
  clear W3 B3 w3
  go_wp2_with fail
  refine (take_step w0 _ _ came2 came2 5 5 2 2 0 1 W4 B4 (Nat.le_refl _) (by omega) (by omega) (by omega) (by omega) (by omega) (by decide) (by decide) (by decide) (by decide)).mono ?_; rintro e w5 ⟨rfl, W5, B5, -⟩
  clear W4 B4 w4
  go_wp2_with fail
  refine (top_made _ _ _ _ _ W5).mono ?_; rintro e w6 ⟨rfl, rfl⟩
  go_wp2_with fail
  refine (taken_made _ _ _ _ _ W5).mono ?_; rintro e w6 ⟨rfl, rfl⟩
  go_wp2_with fail
  refine (take_step w0 _ _ came2 came3 5 70 2 3 70 0 W5 B5 (Nat.le_refl _) (by omega) (by omega) (by omega) (by omega) (by omega) (by decide) (by decide) (by decide) (by decide)).mono ?_; rintro e w6 ⟨rfl, W6, B6, -⟩
  clear W5 B5
  go_wp2_with fail
  refine (take_step w0 _ _ came3 came3 70 70 3 3 6 13 W6 B6 (Nat.le_refl _) (by omega) (by omega) (by omega) (by omega) (by omega) (by decide) (by decide) (by decide) (by decide)).mono ?_; rintro e w7 ⟨rfl, W7, B7, -⟩
  clear W6 B6
  go_wp2_with fail
  refine (take_step w0 _ _ came3 came4 70 70 3 4 7 0 W7 B7 (Nat.le_refl _) (by omega) (by omega) (by omega) (by omega) (by omega) (by decide) (by decide) (by decide) (by decide)).mono ?_; rintro e w8 ⟨rfl, W8, B8, -⟩
  go_wp2_with fail
  go_ret
  exact ⟨rfl, B8⟩
end Go.Proofs.Ytoghekehaiglkaa
