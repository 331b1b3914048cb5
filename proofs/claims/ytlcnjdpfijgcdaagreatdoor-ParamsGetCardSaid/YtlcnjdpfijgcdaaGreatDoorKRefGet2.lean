/- The walk over the document's Get of a number. -/
import Derived.Test.YtlcnjdpfijgcdaaGreatDoorKTold
import Derived.Test.YtlcnjdpfijgcdaaGreatDoorKGet
namespace Go.Proofs.YtlcnjdpfijgcdaaGreatDoor
open Go.RowKit
set_option linter.unusedSimpArgs false
set_option linter.unusedVariables false

theorem drawn_below {w w' : World} (h : Drawn w w') : Below w.heap.size w w' := below_drawn (Below.refl _ _) h

set_option maxRecDepth 100000 in
set_option maxHeartbeats 1000000 in
theorem refget_any (A0 : Option Addr) (n0 c0 : Nat) (bs : List Int) (k : Int) (w : World) (r0 : Rd w .u8 A0 n0 bs) (l0 : n0 ≤ c0) :
    Calls Tryz.prog 40 #[.slice A0 n0 c0, .int .i64 k] w fun e w' => e = .returned (.tuple #[.int .u64 (getN bs n0 k), .int .i64 (getE n0 k)]) ∧ Below w.heap.size w w' := by
  have hbig := r0.big
  by_cases k0 : k < 0
  · have e1 : getE n0 k = 1 := by unfold getE; rw [if_pos (.inl k0)]
    have e2 : getN bs n0 k = 0 := by unfold getN; rw [e1]; rfl
    rw [e1, e2]
    clear e1 e2
    go_enter Tryz.func40, Tryz.ntmps40
    go_wp2_with fail
    go_ret2
    exact ⟨rfl, Below.refl _ _⟩
  by_cases k8 : 8 < k
  · have e1 : getE n0 k = 1 := by unfold getE; rw [if_pos (.inr k8)]
    have e2 : getN bs n0 k = 0 := by unfold getN; rw [e1]; rfl
    rw [e1, e2]
    clear e1 e2
    go_enter Tryz.func40, Tryz.ntmps40
    go_wp2_with fail
    go_ret2
    exact ⟨rfl, Below.refl _ _⟩
  obtain ⟨m, rfl⟩ := Int.eq_ofNat_of_zero_le (show 0 ≤ k by omega)
  by_cases ks : n0 < m
  · have e1 : getE n0 (m : Int) = 5 := by unfold getE; rw [if_neg (by omega), if_pos (by omega)]
    have e2 : getN bs n0 (m : Int) = 0 := by unfold getN; rw [e1]; rfl
    rw [e1, e2]
    clear e1 e2
    go_enter Tryz.func40, Tryz.ntmps40
    go_wp2_with fail
    go_ret2
    exact ⟨rfl, Below.refl _ _⟩
  · have e1 : getE n0 (m : Int) = 0 := by unfold getE; rw [if_neg (by omega), if_neg (by omega)]
    have e2 : getN bs n0 (m : Int) = told (bs.take m) := by unfold getN; rw [e1]; simp
    rw [e1, e2]
    clear e1 e2
    have hsl : ∀ W : World, (Instr.slice 22 (.slice A0 n0 c0) none (some (.int .i64 (m : Int))) none).run Tryz.prog W = .ok (.slice A0 m c0) W := fun W => slice_to W _ n0 c0 m (by omega)
    have HT := Lib.hid (told_any m A0 c0 (bs.take m) w (by omega) (r0.cut m (by omega)) (by omega))
    go_enter Tryz.func40, Tryz.ntmps40
    go_wp2_with fail
    refine HT.out.mono ?_; rintro e w1 ⟨rfl, hD⟩
    go_wp2_with fail
    go_ret2
    exact ⟨rfl, drawn_below hD⟩

end Go.Proofs.YtlcnjdpfijgcdaaGreatDoor
