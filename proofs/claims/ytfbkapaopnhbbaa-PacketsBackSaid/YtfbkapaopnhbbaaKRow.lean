/- Packets as rows of cells: whole loads and stores, copies into parts of them. -/
import Derived.Test.YtfbkapaopnhbbaaKAsk
import Derived.Deep.MidRow
namespace Go.Proofs.Ytfbkapaopnhbbaa
open Go.RowKit
set_option linter.unusedSimpArgs false
set_option linter.unusedVariables false

/-- A packet's cells. -/
def pktC (kind : Int) (f t : List Int) (v : Value) : List Value := .int .u8 kind :: (f.map (Value.int .u8) ++ (t.map (Value.int .u8) ++ [v]))
def zer16 : List Int := List.replicate 16 0
def zPkt : List Value := pktC 0 zer16 zer16 (.slice none 0 0)
theorem pktC_length {kind : Int} {f t : List Int} {v : Value} (hf : f.length = 16) (ht : t.length = 16) : (pktC kind f t v).length = 34 := by simp [pktC, hf, ht]
theorem pktC_one {kind : Int} {f t : List Int} {A : Option Addr} {n c : Nat} : ∀ u ∈ pktC kind f t (.slice A n c), u.oneCell' = true := by
  intro u hu
  simp only [pktC, List.mem_cons, List.mem_append, List.mem_map, List.not_mem_nil, or_false] at hu
  rcases hu with rfl | ⟨_, _, rfl⟩ | ⟨_, _, rfl⟩ | rfl <;> rfl
theorem pktC_set0 {k k' : Int} {f t : List Int} {v : Value} : (pktC k f t v).set 0 (.int .u8 k') = pktC k' f t v := rfl
theorem pktC_set33 {k : Int} {f t : List Int} {v v' : Value} (hf : f.length = 16) (ht : t.length = 16) : (pktC k f t v).set 33 v' = pktC k f t v' := by
  simp only [pktC, List.set_cons_succ]
  rw [List.set_append, if_neg (by simp [hf]), List.length_map, hf, List.set_append, if_neg (by simp [ht]), List.length_map, ht]
  rfl
theorem pktC_splice1 {k : Int} {f t f' : List Int} {v : Value} (hf : f.length = 16) (hf' : f'.length = 16) : splice (pktC k f t v) 1 (f'.map (Value.int .u8)) = pktC k f' t v := by
  simp only [splice, pktC, List.length_map, hf', List.take_succ_cons, List.take_zero, show 1 + 16 = 16 + 1 from rfl, List.drop_succ_cons]
  rw [List.drop_append_of_le_length (by simp [hf]), List.drop_of_length_le (by simp [hf])]
  rfl
theorem pktC_splice17 {k : Int} {f t t' : List Int} {v : Value} (hf : f.length = 16) (ht : t.length = 16) (ht' : t'.length = 16) : splice (pktC k f t v) 17 (t'.map (Value.int .u8)) = pktC k f t' v := by
  simp only [splice, pktC, List.length_map, ht', show 17 = 16 + 1 from rfl, List.take_succ_cons, show 16 + 1 + 16 = 32 + 1 from rfl, List.drop_succ_cons]
  rw [List.take_append_of_le_length (by simp [hf]), List.take_of_length_le (by simp [hf]), ← List.append_assoc (f.map _), List.drop_append_of_le_length (by simp [hf, ht]), List.drop_of_length_le (by simp [hf, ht])]
  simp
/-- A block's part is written anew. -/
theorem Blk.setCells {g : Nat} {t : TypeId} : ∀ (vs : List Value) (o : Nat) (w : World) (cur : List Value), Blk w g t cur → o + vs.length ≤ cur.length → Blk (w.setCells g o vs) g t (splice cur o vs)
  | [], o, w, cur, h, _ => by simpa [World.setCells, splice] using h
  | v :: r, o, w, cur, h, hl => by
    rw [World.setCells]
    have h1 := Blk.setCells r (o + 1) _ _ (h.put o v) (by simp at hl ⊢; omega)
    have e : splice (cur.set o v) (o + 1) r = splice cur o (v :: r) := by
      simp only [List.length_cons] at hl
      simp only [splice, List.length_cons]
      rw [show o + (r.length + 1) = o + 1 + r.length by omega]
      have e1 : (cur.set o v).take (o + 1) = cur.take o ++ [v] := by
        rw [List.take_succ_eq_append_getElem (by simp; omega), List.take_set]
        have : (cur.take o).set o v = cur.take o := List.set_eq_of_length_le (by simp; omega)
        rw [this]; simp
      rw [e1, List.drop_set_of_lt (by omega)]
      simp
    rwa [e] at h1
theorem Keeps.setCells {g : Nat} : ∀ (vs : List Value) (o : Nat) (w : World), Keeps (· = g) w (w.setCells g o vs)
  | [], o, w => Keeps.refl _ _
  | v :: r, o, w => by
    rw [World.setCells]
    exact (Keeps.set1 w ⟨g, o, none⟩ v).trans (Keeps.setCells r (o + 1) _)
theorem Blk.there {w : World} {g : Nat} {t : TypeId} {cs : List Value} (h : Blk w g t cs) (o n : Nat) (hn : o + n ≤ cs.length) : w.there g o n := fun j hj =>
  ⟨by rw [h.cell, List.getElem?_eq_getElem (by omega)]; rfl, h.free _⟩
theorem Blk.range {w : World} {g : Nat} {t : TypeId} {cs : List Value} (h : Blk w g t cs) : w.rangeAt g 0 cs := fun j v hv => by rw [Nat.zero_add, h.cell]; exact hv
theorem splice_whole (cs ds : List Value) (h : ds.length = cs.length) : splice cs 0 ds = ds := by simp [splice, ← h]
/-- The builtin copy as a step of a region that draws its order. -/
theorem step_copy {P : Program} {ops : Array Oper} {o : Oper} {a : Act} {w : World} {K : Act → World → Prop} {Q : Exit → Act → World → Prop} {E : Prop} (hgd : o.guard = none) (d s : Operand) (dT sT : TypeId)
    (ho : o.op = .call { callee := .builtin .copy, args := #[d, s], argTypes := #[dT, sT] }) (elem : TypeId) (hu : P.underlying dT = some (.slice elem)) (hsz : (P.info? elem).map (·.size) = some 1)
    (dp sp : Option Addr) (dLen dCap sLen sCap : Nat) (hd : a.eval d = .slice dp dLen dCap) (hs : a.eval s = .slice sp sLen sCap)
    (g off : Nat) (cur : List Value) (t : TypeId) (hg : Blk w g t cur) (cs : List Value) (hn : cs.length = Nat.min sLen dLen)
    (hpos : 0 < cs.length → dp = some ⟨g, off, none⟩ ∧ ∃ ad, sp = some ad ∧ ∀ j v, cs[j]? = some v → w.cell? (ad.add j) = some v)
    (hfit : off + cs.length ≤ cur.length) (h1 : ∀ v ∈ cs, v.oneCell' = true)
    (h : ∀ w', Hid (Blk w' g t (splice cur off cs)) → Keeps (· = g) w w' → K (a.put o.dst (goInt cs.length)) w') :
    if Region.wanted o (yielded ops a.tmps) = true then Oper.wp P o a w K Q else E := by
  have hw : Region.wanted o (yielded ops a.tmps) = true := by simp [Region.wanted, hgd]
  rw [if_pos hw]
  obtain ⟨w', hrun, r1, r2⟩ := run_copy_blk (P := P) w dT sT o.type elem hu hsz dp sp dLen dCap sLen sCap g off cur t hg cs hn hpos hfit h1
  unfold Oper.wp
  simp [execOp, ho, resolve, invoke, builtin, hd, hs, hrun, Result.andThen]
  exact h w' r1 r2
theorem results_row_tmp {P : Program} {fn : Func} {p u : Tmp} {ty : TypeId} (h : fn.results = #[.cell p ty, .tmp u]) (tmps : Array Value) (w : World) (g : Nat) (cs : List Value) (d : TypeDesc)
    (hp : tmps.getD p undef = .pointer (some ⟨g, 0, none⟩)) (hg : Blk w g ty cs)
    (hu : P.underlying ty = some d) (hd : (match d with | .struct _ | .array _ _ => true | _ => false) = true) (hi : (P.info? ty).map (·.size) = some cs.length) :
    (results fn tmps).run P w = .ok (.tuple #[.agg cs.toArray, tmps.getD u undef]) w := by
  rw [results_cell_tmp h, hp]
  simp [asAddr, Result.andThen, run_loadVar_row w g ty ty cs.toArray (0, 0) d hg hu hd (by simpa using hi)]
theorem info_pkt : (Try.prog.info? 27).map (·.size) = some 34 := by kernel_rfl
end Go.Proofs.Ytfbkapaopnhbbaa
