/- slices.Grow of bytes. -/
import Derived.Test.YtigcpjjmafpjhaaGreatDoorKMat
namespace Go.Proofs.YtigcpjjmafpjhaaGreatDoor
open Go.RowKit
set_option linter.unusedSimpArgs false
set_option linter.unusedVariables false

/-- A new row of bytes with room for so many. -/
def Roomy (base : Nat) (w : World) (k room : Nat) (cs : List Int) (e : Ending) (w' : World) : Prop :=
  ∃ g cap, base ≤ g ∧ g < w'.heap.size ∧ k + room ≤ cap ∧ e = .returned (.slice (some ⟨g, 0, none⟩) k cap) ∧ w'.ownsRow base 5 1 (.slice (some ⟨g, 0, none⟩) k cap) k (cs.map (Value.int .u8)) ∧ Below base w w'

set_option maxRecDepth 100000 in
set_option maxHeartbeats 1000000 in
theorem grow_any (base g k n : Nat) (cs : List Int) (w : World) (hl : cs.length = k) (hb : base ≤ g) (hbw : base ≤ w.heap.size) (hg : Blk w g 5 (cs.map (Value.int .u8))) (hk : k ≤ 70368744177664) (hn : n ≤ 70368744177664) :
    Calls Tryz.prog 72 #[.slice (some ⟨g, 0, none⟩) k k, .int .i64 n] w (Roomy base w k n cs) := by
  by_cases hn0 : n = 0
  · subst hn0
    have hown : w.ownsRow base 5 1 (.slice (some ⟨g, 0, none⟩) k k) k (cs.map (Value.int .u8)) :=
      ⟨by simp [hl], .inr ⟨g, k, _, rfl, hb, hg, Nat.le_refl _, by unfold maxLen; omega, by simp [hl], List.take_of_length_le (by simp [hl])⟩⟩
    have HR : Hid (Roomy base w k 0 cs (.returned (.slice (some ⟨g, 0, none⟩) k k)) w) := Lib.hid ⟨g, k, hb, hg.lt, Nat.le_refl _, rfl, hown, Below.refl _ _⟩
    clear hown
    go_enter Tryz.func72, Tryz.ntmps72
    go_wp2_with fail
    go_ret
    exact HR.out
  · obtain ⟨i0, hi, hzz⟩ := Option.map_eq_some_iff.1 info_u8n
    simp only [Prod.mk.injEq] at hzz
    obtain ⟨hz0, hz1, hz2⟩ := hzz
    have hold : (Builtin.firstCells i0.size k (.slice (some ⟨g, 0, none⟩) k k)).run Tryz.prog w.drew = .ok (cs.map (Value.int .u8)).toArray w.drew :=
      run_firstCells_some w.drew i0.size k ⟨g, 0, none⟩ k k (cs.map (Value.int .u8)) (by rw [hz1]; simp [hl]) (fun j v hj => by
        have ha : (⟨g, 0, none⟩ : Addr).add j = ⟨g, j, none⟩ := by unfold Addr.add; split <;> simp_all
        rw [ha]
        exact (hg.cell j).trans hj)
    have happ : ∀ ty, (Builtin.append_ #[22, 3] ty #[.slice (some ⟨g, 0, none⟩) k k, .int .i64 n]).run Tryz.prog w =
        .ok (.slice (some ⟨w.heap.size, 0, none⟩) (k + n) (grownCap w (k + n) k 5)) (w.drew.alloc (.cells ((cs.map (Value.int .u8)).toArray ++ Builtin.zeroCells (Value.int .u8 0).cells n ++ Builtin.zeroCells (Value.int .u8 0).cells (grownCap w (k + n) k 5 - (k + n))) 5)) := fun ty =>
      Lib.run_append_grow_zeros w 22 3 ty 5 i0 (.int .u8 0) .i64 .i64 Tryz.underlying22 Tryz.underlying3 hi hz0 (some ⟨g, 0, none⟩) k k _ hold n (by omega) (by rw [hz1]; omega) (by omega) (by omega)
        (by rw [hz2]; omega) (by rw [hz2]; exact growslice_fits (by omega) (by omega))
    have hG : k + n ≤ grownCap w (k + n) k 5 := grownCap_ge w _ _ _
    have hG2 : grownCap w (k + n) k 5 ≤ maxLen := grownCap_le_maxLen w _ _ _ (by unfold maxLen; omega)
    generalize grownCap w (k + n) k 5 = cap at *
    obtain ⟨Z, hZ⟩ : ∃ Z : Array Value, (cs.map (Value.int .u8)).toArray ++ Builtin.zeroCells (Value.int .u8 0).cells n ++ Builtin.zeroCells (Value.int .u8 0).cells (cap - (k + n)) = Z := ⟨_, rfl⟩
    have hZ1 : Z.size = cap := by rw [← hZ]; simp [size_zeroCells, Value.cells, hl]; omega
    have hZ2 : Z.toList.take k = cs.map (Value.int .u8) := by
      rw [← hZ]
      simp only [Array.toList_append, List.append_assoc]
      rw [List.take_append_of_le_length (by simp [hl])]
      exact List.take_of_length_le (by simp [hl])
    rw [hZ] at happ
    have hRoomy : Roomy base w k n cs (.returned (.slice (some ⟨w.heap.size, 0, none⟩) k cap)) (w.drew.alloc (.cells Z 5)) :=
      ⟨w.heap.size, cap, hbw, by simp, hG, rfl, ⟨by simp [hl], .inr ⟨_, cap, Z, rfl, hbw, heap_alloc_new w.drew _, by omega, hG2, by omega, by simpa using hZ2⟩⟩,
        ⟨rfl, rfl, rfl, by simp, fun i hi => Below.heap_alloc w.drew _ i (Nat.lt_of_lt_of_le hi hbw)⟩⟩
    have HR := Lib.hid hRoomy
    have HA := Lib.hid happ
    unfold maxLen at hG2
    clear hRoomy happ hZ hZ1 hZ2 hold hi hz0 hz1 hz2
    have q1 : (0 : Int) < n := by omega
    go_enter Tryz.func72, Tryz.ntmps72
    go_wp2_with (at_builtin; refine Lib.wpList_append_run _ rfl _ _ _ _ rfl _ _ rfl rfl _ _ (HA.out _) ?_)
    go_ret
    exact HR.out
end Go.Proofs.YtigcpjjmafpjhaaGreatDoor
