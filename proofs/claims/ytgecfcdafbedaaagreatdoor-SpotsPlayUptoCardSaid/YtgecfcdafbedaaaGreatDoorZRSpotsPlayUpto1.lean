/- A part of a block, written anew; Arrays of whole numbers, compared. -/
import Derived.Test.YtgecfcdafbedaaaGreatDoorZRSpotsPlayUpto0
import Derived.Deep.MidRow
import Derived.Stop.BytesEq
namespace Go.Proofs.YtgecfcdafbedaaaGreatDoor
open Go.RowKit
set_option linter.unusedSimpArgs false
set_option linter.unusedVariables false

/-- A block's part is written anew. -/
theorem Blk.setCells {g : Nat} {t : TypeId} : ∀ (vs : List Value) (o : Nat) (w : World) (cur : List Value), Blk w g t cur → o + vs.length ≤ cur.length → Blk (w.setCells g o vs) g t (splice cur o vs)
  | [], o, w, cur, h, _ => by simpa [World.setCells, splice] using h
  | v :: r, o, w, cur, h, hl => by
    rw [World.setCells]
    have h1 := Blk.setCells r (o + 1) _ _ (h.put o v) (by simp at hl ⊢; omega)
    have e : splice (cur.set o v) (o + 1) r = splice cur o (v :: r) := by
      simp only [List.length_cons] at hl
      simp only [splice, List.length_cons]
      rw [show o + (r.length + 1) = o + 1 + r.length by omega]
      have e1 : (cur.set o v).take (o + 1) = cur.take o ++ [v] := by
        rw [List.take_succ_eq_append_getElem (by simp; omega), List.take_set]
        have : (cur.take o).set o v = cur.take o := List.set_eq_of_length_le (by simp; omega)
        rw [this]; simp
      rw [e1, List.drop_set_of_lt (by omega)]
      simp
    rwa [e] at h1
theorem Keeps.setCells {g : Nat} : ∀ (vs : List Value) (o : Nat) (w : World), Keeps (· = g) w (w.setCells g o vs)
  | [], o, w => Keeps.refl _ _
  | v :: r, o, w => by
    rw [World.setCells]
    exact (Keeps.set1 w ⟨g, o, none⟩ v).trans (Keeps.setCells r (o + 1) _)
theorem Blk.there {w : World} {g : Nat} {t : TypeId} {cs : List Value} (h : Blk w g t cs) (o n : Nat) (hn : o + n ≤ cs.length) : w.there g o n := fun j hj =>
  ⟨by rw [h.cell, List.getElem?_eq_getElem (by omega)]; rfl, h.free _⟩
theorem Blk.range {w : World} {g : Nat} {t : TypeId} {cs : List Value} (h : Blk w g t cs) : w.rangeAt g 0 cs := fun j v hv => by rw [Nat.zero_add, h.cell]; exact hv
theorem splice_whole (cs ds : List Value) (h : ds.length = cs.length) : splice cs 0 ds = ds := by simp [splice, ← h]
end Go.Proofs.YtgecfcdafbedaaaGreatDoor

namespace Go.Proofs.YtgecfcdafbedaaaGreatDoor
open Go.RowKit
set_option linter.unusedSimpArgs false
set_option linter.unusedVariables false
theorem all_range_int : ∀ (xs ys : List Int), xs.length = ys.length → (List.range xs.length).all (fun i => xs.getD i 0 == ys.getD i 0) = (xs == ys)
  | [], [], _ => rfl
  | x :: xs, y :: ys, h => by
    have ih := all_range_int xs ys (by simpa using h)
    simp only [List.length_cons, List.range_succ_eq_map, List.all_cons, List.all_map, List.getD_cons_zero]
    have : ((List.range xs.length).all ((fun i => (x :: xs).getD i 0 == (y :: ys).getD i 0) ∘ Nat.succ)) = (List.range xs.length).all (fun i => xs.getD i 0 == ys.getD i 0) := by
      congr 1
    rw [this, ih]
    simp [List.cons_beq_cons]
  | [], _ :: _, h => by simp at h
  | _ :: _, [], h => by simp at h
section
variable {P : Program} (w : World)
theorem run_equalIn_ints (d : Nat) (t e : TypeId) (n : Nat) (k : IntKind) (ht : P.underlying t = some (.array n e)) (he : P.underlying e = some (.int k)) (hsz : ∀ w, (sizeOf e).run P w = .ok 1 w)
    (xs ys : List Int) (hx : xs.length = n) (hy : ys.length = n) :
    (Op.equalIn (d + 2) t (.agg (xs.map (Value.int k)).toArray) (.agg (ys.map (Value.int k)).toArray)).run P w = .ok (xs == ys) w := by
  rw [← all_range_int xs ys (hx.trans hy.symm), hx, List.range_eq_range', Op.equalIn]
  simp only [Sem.run_bind, run_underlying ht, Result.andThen_ok, hsz, Std.Legacy.Range.forIn_eq_forIn_range', Std.Legacy.Range.size, Nat.sub_zero, Nat.add_sub_cancel, Nat.div_one]
  have hl : ∀ i ∈ List.range' 0 n 1, i < n := fun i hi => by simpa using (List.mem_range'_1.1 hi).2
  generalize List.range' 0 n 1 = l at hl ⊢
  induction l with
  | nil => simp
  | cons i l ih =>
    have hi : i < n := hl i (by simp)
    have px : (part e (xs.map (Value.int k)).toArray (i * 1)).run P w = .ok (Value.int k (xs.getD i 0)) w := by
      simp [part, isAgg, run_underlying he, List.getD, List.getElem?_eq_getElem (show i < xs.length by omega)]
    have py : (part e (ys.map (Value.int k)).toArray (i * 1)).run P w = .ok (Value.int k (ys.getD i 0)) w := by
      simp [part, isAgg, run_underlying he, List.getD, List.getElem?_eq_getElem (show i < ys.length by omega)]
    have pe : (Op.equalIn (d + 1) e (Value.int k (xs.getD i 0)) (Value.int k (ys.getD i 0))).run P w = .ok (xs.getD i 0 == ys.getD i 0) w := by
      rw [run_equalIn_int w d e k k _ _ he]
      first | done | simp
    simp only [List.forIn_cons, Sem.run_bind, px, py, pe, Result.andThen_ok, List.all_cons]
    cases hb : (xs.getD i 0 == ys.getD i 0)
    · simp
    · simp only [Bool.not_true, Bool.false_eq_true, if_false, Sem.run_pure, Result.andThen_ok, Bool.true_and]
      exact ih fun j hj => hl j (by simp [hj])
end
end Go.Proofs.YtgecfcdafbedaaaGreatDoor
