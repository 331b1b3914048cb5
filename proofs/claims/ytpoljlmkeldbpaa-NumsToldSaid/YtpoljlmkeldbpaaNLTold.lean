/- The law NumsTold, a part of its walk. -/
import Derived.Test.YtpoljlmkeldbpaaNTold1
import Derived.Test.YtpoljlmkeldbpaaNTold2
import Derived.Test.YtpoljlmkeldbpaaNTold3
namespace Go.Proofs.Ytpoljlmkeldbpaa
open Go.RowKit
set_option linter.unusedSimpArgs false
set_option linter.unusedVariables false
attribute [local go_sem ↓] Go.wp_at_zero Go.wp_at_succ

set_option maxRecDepth 100000 in
set_option maxHeartbeats 2000000 in
theorem told_beyond (A0 : Option Addr) (n0 c0 : Nat) (A1 : Option Addr) (n1 c1 : Nat) (w : World) (hb0 : n0 ≤ 140737488351232) (hb1 : n1 ≤ 140737488351232) (hle : 1048576 < n0 + n1) :
    Calls Try.prog 6 #[.slice A0 n0 c0, .slice A1 n1 c1] w fun e w' => e = .returned (.bool true) ∧ Below w.heap.size w w' := by
  have hbe : ∀ W : World, Calls Try.prog 10 #[.slice (some ⟨W.heap.size, 0, none⟩) 2 2] (W.alloc (.cells #[.int .i64 n0, .int .i64 n1] 3)) fun e w' => e = .returned (.bool true) ∧ W.alloc (.cells #[.int .i64 n0, .int .i64 n1] 3) = w' := fun W => by
    have hk := Blk.new W 3 [.int .i64 n0, .int .i64 n1]
    have := beyond2_any W.heap.size n0 n1 2 _ (by omega) (by omega) (hk.cell 0) (hk.cell 1)
    rwa [decide_eq_true (by omega)] at this
  have HB := Lib.hid hbe
  clear hbe
  go_enter Try.func6, Try.ntmps6
  go_wp2_with fail
  refine (alive_true _).mono ?_
  rintro e w1 ⟨rfl, hB1⟩
  go_wp2_with fail
  refine (HB.out w1).mono ?_
  rintro e w2 ⟨rfl, rfl⟩
  have hB2 := hB1.alloc hB1.size (.cells #[.int .i64 n0, .int .i64 n1] 3)
  generalize w1.alloc (.cells #[.int .i64 n0, .int .i64 n1] 3) = w2 at *
  go_wp2_with fail
  refine (alive_true _).mono ?_
  rintro e w3 ⟨rfl, hB3⟩
  go_wp2_with fail
  go_ret
  exact ⟨rfl, hB2.trans (hB3.mono hB2.size)⟩

theorem numsTold_walk (A0 : Option Addr) (n0 c0 : Nat) (x0 : List Int) (A1 : Option Addr) (n1 c1 : Nat) (x1 : List Int) (w : World) (r0 : Rd w .u8 A0 n0 x0) (l0 : n0 ≤ c0) (e0 : A0 = none → c0 = 0) (m0 : c0 ≤ 140737488351232) (q0 : 0 < c0 → ∃ b off, A0 = some ⟨b, off, none⟩)
    (r1 : Rd w .u8 A1 n1 x1) (l1 : n1 ≤ c1) (e1 : A1 = none → c1 = 0) (m1 : c1 ≤ 140737488351232) (q1 : 0 < c1 → ∃ b off, A1 = some ⟨b, off, none⟩) :
    Calls Try.prog 6 #[.slice A0 n0 c0, .slice A1 n1 c1] w fun e w' => e = .returned (.bool true) ∧ Below w.heap.size w w' := by
  by_cases hle : 1048576 < n0 + n1
  · exact told_beyond A0 n0 c0 A1 n1 c1 w r0.big r1.big hle
  · by_cases h4 : n0 < 4
    · exact told_short A0 n0 c0 x0 A1 n1 c1 x1 w r0 l0 e0 m0 r1 l1 e1 m1 (by omega) h4
    · cases h : gotB x0 with
      | none => exact told_late A0 n0 c0 x0 A1 n1 c1 x1 w r0 l0 e0 m0 r1 l1 e1 m1 (by omega) h (by omega)
      | some l => exact told_got A0 n0 c0 x0 A1 n1 c1 x1 w r0 l0 e0 m0 r1 l1 e1 m1 (by omega) l h
end Go.Proofs.Ytpoljlmkeldbpaa
