/- Parts of bytes: b[k:], b[k:m]; The walk over slices.Clone at bytes. -/
import Derived.Test.YtadpgodmkodgdaaXRGuidesRoom5
import Derived.Lib.SliceRun
import Derived.Test.YtadpgodmkodgdaaXRGuidesRoom21
import Derived.WalkMore
namespace Go.Proofs.Ytadpgodmkodgdaa
open Go.RowKit
set_option linter.unusedSimpArgs false
set_option linter.unusedVariables false

/-- b[k:]. -/
theorem slice_from (A : Option Addr) (n c k : Nat) (h : k ≤ n) (hc : n ≤ c) (hz : A = none → c = 0) : ∃ A', (∀ W : World, (Instr.slice 49 (.slice A n c) (some (.int .i64 (k : Int))) none none).run Try.prog W = .ok (.slice A' (n - k) (c - k)) W) ∧
    (∀ (W : World) (xs : List Int), Rd W .u8 A n xs → Rd W .u8 A' (n - k) (xs.drop k)) ∧ (A' = none → c - k = 0) := by
  refine ⟨if c = k then A else A.map (·.add (k * 1)), fun W => ?_, fun W xs hr => ?_, ?_⟩
  · rw [run_slice_l W 49 A n c (by kernel_rfl) .i64 (k : Int) (by omega) (by omega), show (sizeOf (Try.prog.elem 49)).run Try.prog W = .ok 1 W from by kernel_rfl]
    simp only [Result.andThen, sliced, Int.toNat_natCast]
  · refine ⟨by simp [hr.len], by have := hr.big; omega, fun x hx => hr.wf x (List.mem_of_mem_drop hx), fun h0 => ?_⟩
    obtain ⟨b, off, rfl, hb, hcell⟩ := hr.row (by omega)
    rw [if_neg (by omega)]
    have ha : (⟨b, off, none⟩ : Addr).add (k * 1) = ⟨b, off + k, none⟩ := by unfold Addr.add; split <;> simp_all
    refine ⟨b, off + k, congrArg some ha, hb, fun j hj => ?_⟩
    rw [Nat.add_assoc, hcell (k + j) (by omega)]
    simp
  · intro e
    by_cases h1 : c = k
    · omega
    · rw [if_neg h1] at e
      cases A with
      | none => have := hz rfl; omega
      | some a => simp at e
/-- b[k:m]. -/
theorem slice_mid (A : Option Addr) (n c k m : Nat) (h : k ≤ m) (hm : m ≤ n) (hc : n ≤ c) (hz : A = none → c = 0) : ∃ A', (∀ W : World, (Instr.slice 49 (.slice A n c) (some (.int .i64 (k : Int))) (some (.int .i64 (m : Int))) none).run Try.prog W = .ok (.slice A' (m - k) (c - k)) W) ∧
    (∀ (W : World) (xs : List Int), Rd W .u8 A n xs → Rd W .u8 A' (m - k) ((xs.drop k).take (m - k))) ∧ (A' = none → c - k = 0) := by
  refine ⟨if c = k then A else A.map (·.add (k * 1)), fun W => ?_, fun W xs hr => ?_, ?_⟩
  · rw [run_slice_lh W 49 A n c (by kernel_rfl) .i64 .i64 (k : Int) (m : Int) (by omega) (by omega) (by omega), show (sizeOf (Try.prog.elem 49)).run Try.prog W = .ok 1 W from by kernel_rfl]
    simp only [Result.andThen, sliced, Int.toNat_natCast]
  · refine ⟨by simp [hr.len]; omega, by have := hr.big; omega, fun x hx => hr.wf x (List.mem_of_mem_drop (List.mem_of_mem_take hx)), fun h0 => ?_⟩
    obtain ⟨b, off, rfl, hb, hcell⟩ := hr.row (by omega)
    rw [if_neg (by omega)]
    have ha : (⟨b, off, none⟩ : Addr).add (k * 1) = ⟨b, off + k, none⟩ := by unfold Addr.add; split <;> simp_all
    refine ⟨b, off + k, congrArg some ha, hb, fun j hj => ?_⟩
    rw [Nat.add_assoc, hcell (k + j) (by omega)]
    simp [List.getElem?_take, hj]
  · intro e
    by_cases h1 : c = k
    · omega
    · rw [if_neg h1] at e
      cases A with
      | none => have := hz rfl; omega
      | some a => simp at e
end Go.Proofs.Ytadpgodmkodgdaa

namespace Go.Proofs.Ytadpgodmkodgdaa
open Go.RowKit
set_option linter.unusedSimpArgs false
set_option linter.unusedVariables false

set_option maxHeartbeats 1000000 in
theorem clone_any (A0 : Option Addr) (n0 c0 : Nat) (bs : List Int) (w : World) (r0 : Rd w .u8 A0 n0 bs) (l0 : n0 ≤ c0) (hz : A0 = none → c0 = 0) :
    Calls Try.prog 37 #[.slice A0 n0 c0] w fun e w' => ∃ A c, e = .returned (.slice A n0 c) ∧ n0 ≤ c ∧ w'.ownsRow w.heap.size 5 1 (.slice A n0 c) n0 (bs.map (Value.int .u8)) ∧ (A = none → c = 0) ∧ Below w.heap.size w w' := by
  have hbig := r0.big
  have q22 : ∀ (w : World) (a : Option Addr) (n c : Nat), (binOp .eql 49 (.slice a n c) (.slice none 0 0)).run Try.prog w = .ok (.bool a.isNone) w := fun w a n c => Lib.run_eql_slice_nil w _ _ a n c 0 0 Try.underlying49
  cases A0 with
  | none =>
    obtain rfl := hz rfl
    obtain rfl : n0 = 0 := by omega
    obtain rfl : bs = [] := List.eq_nil_of_length_eq_zero r0.len
    go_enter Try.func37, Try.ntmps37
    go_wp2_with fail
    go_ret
    exact ⟨none, 0, rfl, own_nil _ _ _ _, fun _ => rfl, Below.refl _ _⟩
  | some ad =>
    have hR := Lib.hid (r0.below (new_below w (.cells #[] 5)))
    have hO : (w.alloc (.cells #[] 5)).ownsRow w.heap.size 5 1 (.slice (some ⟨w.heap.size, 0, none⟩) 0 0) 0 (([] : List Int).map (Value.int .u8)) :=
      ⟨by simp, .inr ⟨_, 0, #[], rfl, Nat.le_refl _, heap_alloc_new w _, Nat.le_refl _, Nat.zero_le _, by simp, by simp⟩⟩
    have HO := Lib.hid hO
    clear hO r0 hz
    go_enter Try.func37, Try.ntmps37
    go_wp2_with (at_builtin; refine append_bytes w.heap.size rfl _ _ rfl (.slice (some ⟨w.heap.size, 0, none⟩) 0 0) 0 [] rfl (some ad) n0 c0 bs rfl hR.out (fun e => by cases e) HO.out (by simp) (by omega) ?_; intro v1 w1 ho1 hg1 hat1; rw [Nat.zero_add, List.nil_append] at ho1; obtain ⟨A1, c1, rfl, hc1, hm1, hs1⟩ := own_slice ho1.out)
    go_ret
    refine ⟨A1, c1, rfl, hc1, ho1.out, ?_, ?_⟩
    · intro e
      subst e
      rcases ho1.out.2 with ⟨h, _⟩ | ⟨_, _, _, h, _⟩
      · injection h
      · cases h
    · exact grown_below (v := .slice (some ⟨w.heap.size, 0, none⟩) 0 0) (new_below _ _) hg1 HO.out (Nat.le_refl _)
end Go.Proofs.Ytadpgodmkodgdaa
