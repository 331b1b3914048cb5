/- Parts of bytes: b[k:], b[k:m]; Results in a cell and a slot. -/
import Derived.Test.YtgecfcdafbedaaaGreatZRParamsBodies13
import Derived.Lib.SliceRun
import Derived.Test.YtgecfcdafbedaaaGreatZRParamsBodies0
namespace Go.Proofs.YtgecfcdafbedaaaGreat
open Go.RowKit
set_option linter.unusedSimpArgs false
set_option linter.unusedVariables false

/-- b[k:]. -/
theorem slice_from (A : Option Addr) (n c k : Nat) (h : k ≤ n) (hc : n ≤ c) (hz : A = none → c = 0) : ∃ A', (∀ W : World, (Instr.slice 22 (.slice A n c) (some (.int .i64 (k : Int))) none none).run Tryz.prog W = .ok (.slice A' (n - k) (c - k)) W) ∧
    (∀ (W : World) (xs : List Int), Rd W .u8 A n xs → Rd W .u8 A' (n - k) (xs.drop k)) ∧ (A' = none → c - k = 0) := by
  refine ⟨if c = k then A else A.map (·.add (k * 1)), fun W => ?_, fun W xs hr => ?_, ?_⟩
  · rw [run_slice_l W 22 A n c (by kernel_rfl) .i64 (k : Int) (by omega) (by omega), show (sizeOf (Tryz.prog.elem 22)).run Tryz.prog W = .ok 1 W from by kernel_rfl]
    simp only [Result.andThen, sliced, Int.toNat_natCast]
  · refine ⟨by simp [hr.len], by have := hr.big; omega, fun x hx => hr.wf x (List.mem_of_mem_drop hx), fun h0 => ?_⟩
    obtain ⟨b, off, rfl, hb, hcell⟩ := hr.row (by omega)
    rw [if_neg (by omega)]
    have ha : (⟨b, off, none⟩ : Addr).add (k * 1) = ⟨b, off + k, none⟩ := by unfold Addr.add; split <;> simp_all
    refine ⟨b, off + k, congrArg some ha, hb, fun j hj => ?_⟩
    rw [Nat.add_assoc, hcell (k + j) (by omega)]
    simp
  · intro e
    by_cases h1 : c = k
    · omega
    · rw [if_neg h1] at e
      cases A with
      | none => have := hz rfl; omega
      | some a => simp at e
/-- b[k:m]. -/
theorem slice_mid (A : Option Addr) (n c k m : Nat) (h : k ≤ m) (hm : m ≤ n) (hc : n ≤ c) (hz : A = none → c = 0) : ∃ A', (∀ W : World, (Instr.slice 22 (.slice A n c) (some (.int .i64 (k : Int))) (some (.int .i64 (m : Int))) none).run Tryz.prog W = .ok (.slice A' (m - k) (c - k)) W) ∧
    (∀ (W : World) (xs : List Int), Rd W .u8 A n xs → Rd W .u8 A' (m - k) ((xs.drop k).take (m - k))) ∧ (A' = none → c - k = 0) := by
  refine ⟨if c = k then A else A.map (·.add (k * 1)), fun W => ?_, fun W xs hr => ?_, ?_⟩
  · rw [run_slice_lh W 22 A n c (by kernel_rfl) .i64 .i64 (k : Int) (m : Int) (by omega) (by omega) (by omega), show (sizeOf (Tryz.prog.elem 22)).run Tryz.prog W = .ok 1 W from by kernel_rfl]
    simp only [Result.andThen, sliced, Int.toNat_natCast]
  · refine ⟨by simp [hr.len]; omega, by have := hr.big; omega, fun x hx => hr.wf x (List.mem_of_mem_drop (List.mem_of_mem_take hx)), fun h0 => ?_⟩
    obtain ⟨b, off, rfl, hb, hcell⟩ := hr.row (by omega)
    rw [if_neg (by omega)]
    have ha : (⟨b, off, none⟩ : Addr).add (k * 1) = ⟨b, off + k, none⟩ := by unfold Addr.add; split <;> simp_all
    refine ⟨b, off + k, congrArg some ha, hb, fun j hj => ?_⟩
    rw [Nat.add_assoc, hcell (k + j) (by omega)]
    simp [List.getElem?_take, hj]
  · intro e
    by_cases h1 : c = k
    · omega
    · rw [if_neg h1] at e
      cases A with
      | none => have := hz rfl; omega
      | some a => simp at e
end Go.Proofs.YtgecfcdafbedaaaGreat

namespace Go.Proofs.YtgecfcdafbedaaaGreat
open Go.RowKit
set_option linter.unusedSimpArgs false
set_option linter.unusedVariables false

theorem results_row_tmp {P : Program} {fn : Func} {p u : Tmp} {ty : TypeId} (h : fn.results = #[.cell p ty, .tmp u]) (tmps : Array Value) (w : World) (g : Nat) (cs : List Value) (d : TypeDesc)
    (hp : tmps.getD p undef = .pointer (some ⟨g, 0, none⟩)) (hg : Blk w g ty cs)
    (hu : P.underlying ty = some d) (hd : (match d with | .struct _ | .array _ _ => true | _ => false) = true) (hi : (P.info? ty).map (·.size) = some cs.length) :
    (results fn tmps).run P w = .ok (.tuple #[.agg cs.toArray, tmps.getD u undef]) w := by
  rw [results_cell_tmp h, hp]
  simp [asAddr, Result.andThen, run_loadVar_row w g ty ty cs.toArray (0, 0) d hg hu hd (by simpa using hi)]
end Go.Proofs.YtgecfcdafbedaaaGreat
