/- A part of a block, written anew; Results in a cell and a slot. -/
import Derived.Test.YtadpgodmkodgdaaXRGuidesRoom1
import Derived.Deep.MidRow
import Derived.Test.YtadpgodmkodgdaaBase
namespace Go.Proofs.Ytadpgodmkodgdaa
open Go.RowKit
set_option linter.unusedSimpArgs false
set_option linter.unusedVariables false

/-- A block's part is written anew. -/
theorem Blk.setCells {g : Nat} {t : TypeId} : ∀ (vs : List Value) (o : Nat) (w : World) (cur : List Value), Blk w g t cur → o + vs.length ≤ cur.length → Blk (w.setCells g o vs) g t (splice cur o vs)
  | [], o, w, cur, h, _ => by simpa [World.setCells, splice] using h
  | v :: r, o, w, cur, h, hl => by
    rw [World.setCells]
    have h1 := Blk.setCells r (o + 1) _ _ (h.put o v) (by simp at hl ⊢; omega)
    have e : splice (cur.set o v) (o + 1) r = splice cur o (v :: r) := by
      simp only [List.length_cons] at hl
      simp only [splice, List.length_cons]
      rw [show o + (r.length + 1) = o + 1 + r.length by omega]
      have e1 : (cur.set o v).take (o + 1) = cur.take o ++ [v] := by
        rw [List.take_succ_eq_append_getElem (by simp; omega), List.take_set]
        have : (cur.take o).set o v = cur.take o := List.set_eq_of_length_le (by simp; omega)
        rw [this]; simp
      rw [e1, List.drop_set_of_lt (by omega)]
      simp
    rwa [e] at h1
theorem Keeps.setCells {g : Nat} : ∀ (vs : List Value) (o : Nat) (w : World), Keeps (· = g) w (w.setCells g o vs)
  | [], o, w => Keeps.refl _ _
  | v :: r, o, w => by
    rw [World.setCells]
    exact (Keeps.set1 w ⟨g, o, none⟩ v).trans (Keeps.setCells r (o + 1) _)
theorem Blk.there {w : World} {g : Nat} {t : TypeId} {cs : List Value} (h : Blk w g t cs) (o n : Nat) (hn : o + n ≤ cs.length) : w.there g o n := fun j hj =>
  ⟨by rw [h.cell, List.getElem?_eq_getElem (by omega)]; rfl, h.free _⟩
theorem Blk.range {w : World} {g : Nat} {t : TypeId} {cs : List Value} (h : Blk w g t cs) : w.rangeAt g 0 cs := fun j v hv => by rw [Nat.zero_add, h.cell]; exact hv
theorem splice_whole (cs ds : List Value) (h : ds.length = cs.length) : splice cs 0 ds = ds := by simp [splice, ← h]
end Go.Proofs.Ytadpgodmkodgdaa

namespace Go.Proofs.Ytadpgodmkodgdaa
open Go.RowKit
set_option linter.unusedSimpArgs false
set_option linter.unusedVariables false

theorem results_row_tmp {P : Program} {fn : Func} {p u : Tmp} {ty : TypeId} (h : fn.results = #[.cell p ty, .tmp u]) (tmps : Array Value) (w : World) (g : Nat) (cs : List Value) (d : TypeDesc)
    (hp : tmps.getD p undef = .pointer (some ⟨g, 0, none⟩)) (hg : Blk w g ty cs)
    (hu : P.underlying ty = some d) (hd : (match d with | .struct _ | .array _ _ => true | _ => false) = true) (hi : (P.info? ty).map (·.size) = some cs.length) :
    (results fn tmps).run P w = .ok (.tuple #[.agg cs.toArray, tmps.getD u undef]) w := by
  rw [results_cell_tmp h, hp]
  simp [asAddr, Result.andThen, run_loadVar_row w g ty ty cs.toArray (0, 0) d hg hu hd (by simpa using hi)]
end Go.Proofs.Ytadpgodmkodgdaa
