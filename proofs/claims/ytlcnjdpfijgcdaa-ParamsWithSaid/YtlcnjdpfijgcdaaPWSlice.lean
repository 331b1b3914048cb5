/- Slices cut in a region that draws its order; a part of a list of pieces. -/
import Derived.Test.YtlcnjdpfijgcdaaPWith
import Derived.Test.YtlcnjdpfijgcdaaKBuild
namespace Go.Proofs.Ytlcnjdpfijgcdaa
open Go.RowKit
set_option linter.unusedSimpArgs false
set_option linter.unusedVariables false
theorem yieldsIf_sliceG {P : Program} {ops : Array Oper} {a : Act} {S : World → Prop} {op : Oper} (hw : Region.wanted op (yielded ops a.tmps) = true) (t : TypeId) (x : Operand) (lo hi mx : Option Operand) (ho : op.op = .slice t x lo hi mx) (v : Value) (e : TypeId) (hu : P.underlying t = some (.slice e))
    (hr : ∀ W, (Instr.slice t (a.eval x) (lo.map a.eval) (hi.map a.eval) (mx.map a.eval)).run P W = .ok v W) : YieldsIf P ops S op v a :=
  .inl ⟨hw, fun w _ => by
    have h : (Instr.sliceAt t (a.eval x) (lo.map a.eval) (hi.map a.eval) (mx.map a.eval)).run P w = .ok v w := by
      simp only [Instr.sliceAt, Sem.run_bind, run_underlying hu, Result.andThen_ok]
      exact hr w
    unfold execOp
    simp only [ho, Sem.run_bind, Sem.run_pure, Result.andThen_ok, h]⟩
theorem Ps.takeP {w : World} {A : Option Addr} {n : Nat} {ps : List Piece} (h : Ps w A n ps) (k : Nat) (hk : k ≤ n) : Ps w A k (ps.take k) :=
  ⟨by rw [List.length_take, h.len]; omega, by have := h.big; omega, fun h0 => by
    obtain ⟨b, off, e, hb, hc⟩ := h.row (by omega)
    refine ⟨b, off, e, hb, fun j hj => ?_⟩
    obtain ⟨t, body, B, m, c, h1, h2, h3, h4, h5, h6, h7⟩ := hc j (by omega)
    exact ⟨t, body, B, m, c, by rw [List.getElem?_take, if_pos hj]; exact h1, h2, h3, h4, h5, h6, h7⟩⟩
/-- l[k:] of pieces. -/
theorem Ps.dropP {w : World} {A : Option Addr} {n c : Nat} {ps : List Piece} (h : Ps w A n ps) (hnc : n ≤ c) (k : Nat) (hk : k ≤ n) :
    ∃ A', (∀ W : World, (Instr.slice 66 (.slice A n c) (some (.int .i64 (k : Int))) none none).run Try.prog W = .ok (.slice A' (n - k) (c - k)) W) ∧ ∀ W, Below w.heap.size w W → Ps W A' (n - k) (ps.drop k) := by
  refine ⟨if c = k then A else A.map (·.add (k * 2)), fun W => ?_, fun W hB => ⟨by rw [List.length_drop, h.len], by have := h.big; omega, fun h0 => ?_⟩⟩
  · rw [run_slice_l W 66 A n c (by kernel_rfl) .i64 (k : Int) (by omega) (by omega), show (sizeOf (Try.prog.elem 66)).run Try.prog W = .ok 2 W from by kernel_rfl]
    simp only [Result.andThen, sliced, Int.toNat_natCast]
  · obtain ⟨b, off, rfl, hb, hc⟩ := (h.below hB).row (by omega)
    rw [if_neg (by omega)]
    refine ⟨b, off + k * 2, by simp only [Option.map_some, add_lit], hb, fun j hj => ?_⟩
    obtain ⟨t, body, B, m, d, h1, h2, h3, h4, h5, h6, h7⟩ := hc (k + j) (by omega)
    exact ⟨t, body, B, m, d, by rw [List.getElem?_drop]; exact h1, h2, by rw [show off + k * 2 + j * 2 = off + (k + j) * 2 by omega]; exact h3, by rw [show off + k * 2 + j * 2 + 1 = off + (k + j) * 2 + 1 by omega]; exact h4, h5, h6, h7⟩
theorem okPiece_len {w : World} {A : Option Addr} {n : Nat} {ps : List Piece} (h : Ps w A n ps) : ∀ p ∈ ps, p.2.length ≤ 140737488351232 := fun p hp => by
  obtain ⟨j, hj, e⟩ := List.getElem_of_mem hp
  obtain ⟨b, off, _, _, hc⟩ := h.row (by have := h.len; omega)
  obtain ⟨t, body, B, m, c, h1, h2, _, _, h5, _, _⟩ := hc j (by have := h.len; omega)
  have : p = (t, body) := by rw [List.getElem?_eq_getElem hj] at h1; injection h1 with h1; rw [← e, h1]
  subst this
  have := h5.len; have := h5.big
  simp only; omega
end Go.Proofs.Ytlcnjdpfijgcdaa
