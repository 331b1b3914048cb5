/- Sums: the type's facts; The walk over params.PutSum. -/
import Derived.Test.YtadpgodmkodgdaaXRGuidesRoom6
import Derived.Test.YtadpgodmkodgdaaXRGuidesRoom22
import Derived.Deep.DeepCutAuto
namespace Go.Proofs.Ytadpgodmkodgdaa
open Go.RowKit
set_option linter.unusedSimpArgs false
set_option linter.unusedVariables false

def zSum : List Value := (List.replicate 32 (0 : Int)).map (Value.int .u8)
theorem alloc_sum (W : World) (o : Oper) (ho : o.op = .alloc 41) (ev : Operand → Value) : (execOp ev o).run Try.prog W = .ok (.value (.pointer (some ⟨W.heap.size, 0, none⟩))) (W.alloc (.cells zSum.toArray 41)) := by
  obtain ⟨d, op, t, p, af, g⟩ := o
  simp only at ho
  subst ho
  kernel_rfl
theorem slice_sum (S : Nat) (W : World) : (Instr.sliceAt 41 (.pointer (some ⟨S, 0, none⟩)) none none none).run Try.prog W = .ok (.slice (some ⟨S, 0, none⟩) 32 32) W := by kernel_rfl
theorem size_sum : (Try.prog.info? 41).map (·.size) = some 32 := by kernel_rfl
theorem one_ints {k : IntKind} {xs : List Int} : ∀ v ∈ xs.map (Value.int k), v.oneCell' = true := by
  intro v hv
  rw [List.mem_map] at hv
  obtain ⟨x, _, rfl⟩ := hv
  rfl
end Go.Proofs.Ytadpgodmkodgdaa

namespace Go.Proofs.Ytadpgodmkodgdaa
open Go.RowKit
set_option linter.unusedSimpArgs false
set_option linter.unusedVariables false

theorem own_lowerB {w : World} {base base' : Nat} {e : TypeId} {size n : Nat} {v : Value} {xs : List Value} (h : w.ownsRow base e size v n xs) (hb : base' ≤ base) : w.ownsRow base' e size v n xs := by
  refine ⟨h.1, ?_⟩
  rcases h.2 with h1 | ⟨g, cap, cur, h1, h2, h3⟩
  · exact .inl h1
  · exact .inr ⟨g, cap, cur, h1, Nat.le_trans hb h2, h3⟩
/-- The cells of a value. -/
def u8V (bs : List Int) : Value := .agg (bs.map (Value.int .u8)).toArray
set_option maxRecDepth 100000 in
set_option maxHeartbeats 2000000 in
theorem putSum_any (bs : List Int) (w : World) (hl : bs.length = 32) (hb : ∀ x ∈ bs, 0 ≤ x ∧ x ≤ 255) :
    Calls Try.prog 42 #[u8V bs] w fun e w' => ∃ A c, e = .returned (.slice A 32 c) ∧ 32 ≤ c ∧ w'.ownsRow w.heap.size 5 1 (.slice A 32 c) 32 (bs.map (Value.int .u8)) ∧ (A = none → c = 0) ∧ Below w.heap.size w w' := by
  obtain ⟨S, hS⟩ : ∃ S, w.heap.size = S := ⟨_, rfl⟩
  have HS := Lib.hid hS
  have HSL := Lib.hid (slice_sum S)
  have HBB := Lib.hid hb
  have HL := Lib.hid hl
  unfold u8V
  obtain ⟨X, hX⟩ : ∃ X, bs.map (Value.int .u8) = X := ⟨_, rfl⟩
  rw [hX]
  have HX := Lib.hid hX
  clear hS hb hl hX
  go_enter Try.func42, Try.ntmps42
  go_upto_region 0 with fail
  refine wp_region_lit ?_
  refine wpList_boxT (o := ⟨some 1, .box 41 _, _, _, _, _⟩) rfl 41 _ rfl X rfl ?_; intro w1 HK1 HB1
  rw [HS.out] at HK1 ⊢
  have HR1 : Hid (Rd w1 .u8 (some ⟨S, 0, none⟩) 32 bs) := Lib.hid (rd_of_blk (by rw [HX.out]; exact HK1.out) HBB.out HL.out (by omega))
  have HC := Lib.hid (clone_any (some ⟨S, 0, none⟩) 32 32 bs w1 HR1.out (Nat.le_refl _) (fun h => by cases h))
  go_upto_region 1 with fail
  refine wp_region_lit ?_
  refine wpList_value (o := ⟨some 3, .slice 41 _ _ _ _, _, _, _, _⟩) (v := .slice (some ⟨S, 0, none⟩) 32 32) (w' := w1) rfl (exec_sliceB rfl (HSL.out w1)) ?_
  go_wp2_with fail
  refine HC.out.mono ?_; rintro e w2 ⟨A, c, rfl, h1, h2, h3, h4⟩
  have HF := Lib.hid (show 32 ≤ c ∧ w2.ownsRow w.heap.size 5 1 (.slice A 32 c) 32 X ∧ (A = none → c = 0) ∧ Below w.heap.size w w2 from ⟨h1, own_lowerB (by rw [← HX.out]; exact h2) HB1.out.size, h3, HB1.out.trans (h4.mono HB1.out.size)⟩)
  clear h1 h2 h3 h4
  go_wp2_with fail
  go_ret
  exact ⟨A, c, rfl, HF.out⟩
end Go.Proofs.Ytadpgodmkodgdaa
