/- Packets as rows of cells: whole loads and stores, copies into parts of them; slices.Grow of bytes. -/
import Derived.Test.YtjikjdignhdipaaGreatDoorYRPacketsGet17
import Derived.Test.YtjikjdignhdipaaGreatDoorYRPacketsGet9
import Derived.Deep.MidRow
import Derived.Test.YtjikjdignhdipaaGreatDoorYRPacketsGet4
namespace Go.Proofs.YtjikjdignhdipaaGreatDoor
open Go.RowKit
set_option linter.unusedSimpArgs false
set_option linter.unusedVariables false

/-- A packet's cells. -/
def pktC (kind : Int) (f t : List Int) (v : Value) : List Value := .int .u8 kind :: (f.map (Value.int .u8) ++ (t.map (Value.int .u8) ++ [v]))
def zer16 : List Int := List.replicate 16 0
def zPkt : List Value := pktC 0 zer16 zer16 (.slice none 0 0)
theorem pktC_length {kind : Int} {f t : List Int} {v : Value} (hf : f.length = 16) (ht : t.length = 16) : (pktC kind f t v).length = 34 := by simp [pktC, hf, ht]
theorem pktC_one {kind : Int} {f t : List Int} {A : Option Addr} {n c : Nat} : ∀ u ∈ pktC kind f t (.slice A n c), u.oneCell' = true := by
  intro u hu
  simp only [pktC, List.mem_cons, List.mem_append, List.mem_map, List.not_mem_nil, or_false] at hu
  rcases hu with rfl | ⟨_, _, rfl⟩ | ⟨_, _, rfl⟩ | rfl <;> rfl
theorem pktC_set0 {k k' : Int} {f t : List Int} {v : Value} : (pktC k f t v).set 0 (.int .u8 k') = pktC k' f t v := rfl
theorem pktC_set33 {k : Int} {f t : List Int} {v v' : Value} (hf : f.length = 16) (ht : t.length = 16) : (pktC k f t v).set 33 v' = pktC k f t v' := by
  simp only [pktC, List.set_cons_succ]
  rw [List.set_append, if_neg (by simp [hf]), List.length_map, hf, List.set_append, if_neg (by simp [ht]), List.length_map, ht]
  rfl
theorem pktC_splice1 {k : Int} {f t f' : List Int} {v : Value} (hf : f.length = 16) (hf' : f'.length = 16) : splice (pktC k f t v) 1 (f'.map (Value.int .u8)) = pktC k f' t v := by
  simp only [splice, pktC, List.length_map, hf', List.take_succ_cons, List.take_zero, show 1 + 16 = 16 + 1 from rfl, List.drop_succ_cons]
  rw [List.drop_append_of_le_length (by simp [hf]), List.drop_of_length_le (by simp [hf])]
  rfl
theorem pktC_splice17 {k : Int} {f t t' : List Int} {v : Value} (hf : f.length = 16) (ht : t.length = 16) (ht' : t'.length = 16) : splice (pktC k f t v) 17 (t'.map (Value.int .u8)) = pktC k f t' v := by
  simp only [splice, pktC, List.length_map, ht', show 17 = 16 + 1 from rfl, List.take_succ_cons, show 16 + 1 + 16 = 32 + 1 from rfl, List.drop_succ_cons]
  rw [List.take_append_of_le_length (by simp [hf]), List.take_of_length_le (by simp [hf]), ← List.append_assoc (f.map _), List.drop_append_of_le_length (by simp [hf, ht]), List.drop_of_length_le (by simp [hf, ht])]
  simp
/-- The builtin copy as a step of a region that draws its order. -/
theorem step_copy {P : Program} {ops : Array Oper} {o : Oper} {a : Act} {w : World} {K : Act → World → Prop} {Q : Exit → Act → World → Prop} {E : Prop} (hgd : o.guard = none) (d s : Operand) (dT sT : TypeId)
    (ho : o.op = .call { callee := .builtin .copy, args := #[d, s], argTypes := #[dT, sT] }) (elem : TypeId) (hu : P.underlying dT = some (.slice elem)) (hsz : (P.info? elem).map (·.size) = some 1)
    (dp sp : Option Addr) (dLen dCap sLen sCap : Nat) (hd : a.eval d = .slice dp dLen dCap) (hs : a.eval s = .slice sp sLen sCap)
    (g off : Nat) (cur : List Value) (t : TypeId) (hg : Blk w g t cur) (cs : List Value) (hn : cs.length = Nat.min sLen dLen)
    (hpos : 0 < cs.length → dp = some ⟨g, off, none⟩ ∧ ∃ ad, sp = some ad ∧ ∀ j v, cs[j]? = some v → w.cell? (ad.add j) = some v)
    (hfit : off + cs.length ≤ cur.length) (h1 : ∀ v ∈ cs, v.oneCell' = true)
    (h : ∀ w', Hid (Blk w' g t (splice cur off cs)) → Keeps (· = g) w w' → K (a.put o.dst (goInt cs.length)) w') :
    if Region.wanted o (yielded ops a.tmps) = true then Oper.wp P o a w K Q else E := by
  have hw : Region.wanted o (yielded ops a.tmps) = true := by simp [Region.wanted, hgd]
  rw [if_pos hw]
  obtain ⟨w', hrun, r1, r2⟩ := run_copy_blk (P := P) w dT sT o.type elem hu hsz dp sp dLen dCap sLen sCap g off cur t hg cs hn hpos hfit h1
  unfold Oper.wp
  simp [execOp, ho, resolve, invoke, builtin, hd, hs, hrun, Result.andThen]
  exact h w' r1 r2
theorem results_row_tmp {P : Program} {fn : Func} {p u : Tmp} {ty : TypeId} (h : fn.results = #[.cell p ty, .tmp u]) (tmps : Array Value) (w : World) (g : Nat) (cs : List Value) (d : TypeDesc)
    (hp : tmps.getD p undef = .pointer (some ⟨g, 0, none⟩)) (hg : Blk w g ty cs)
    (hu : P.underlying ty = some d) (hd : (match d with | .struct _ | .array _ _ => true | _ => false) = true) (hi : (P.info? ty).map (·.size) = some cs.length) :
    (results fn tmps).run P w = .ok (.tuple #[.agg cs.toArray, tmps.getD u undef]) w := by
  rw [results_cell_tmp h, hp]
  simp [asAddr, Result.andThen, run_loadVar_row w g ty ty cs.toArray (0, 0) d hg hu hd (by simpa using hi)]
theorem info_pkt : (Tryz.prog.info? 27).map (·.size) = some 34 := by kernel_rfl
end Go.Proofs.YtjikjdignhdipaaGreatDoor

namespace Go.Proofs.YtjikjdignhdipaaGreatDoor
open Go.RowKit
set_option linter.unusedSimpArgs false
set_option linter.unusedVariables false

/-- A new row of bytes with room for so many. -/
def Roomy (base : Nat) (w : World) (k room : Nat) (cs : List Int) (e : Ending) (w' : World) : Prop :=
  ∃ g cap, base ≤ g ∧ g < w'.heap.size ∧ k + room ≤ cap ∧ e = .returned (.slice (some ⟨g, 0, none⟩) k cap) ∧ w'.ownsRow base 5 1 (.slice (some ⟨g, 0, none⟩) k cap) k (cs.map (Value.int .u8)) ∧ Below base w w'

set_option maxRecDepth 100000 in
set_option maxHeartbeats 1000000 in
theorem grow_any (base g k n : Nat) (cs : List Int) (w : World) (hl : cs.length = k) (hb : base ≤ g) (hbw : base ≤ w.heap.size) (hg : Blk w g 5 (cs.map (Value.int .u8))) (hk : k ≤ 70368744177664) (hn : n ≤ 70368744177664) :
    Calls Tryz.prog 95 #[.slice (some ⟨g, 0, none⟩) k k, .int .i64 n] w (Roomy base w k n cs) := by
  by_cases hn0 : n = 0
  · subst hn0
    have hown : w.ownsRow base 5 1 (.slice (some ⟨g, 0, none⟩) k k) k (cs.map (Value.int .u8)) :=
      ⟨by simp [hl], .inr ⟨g, k, _, rfl, hb, hg, Nat.le_refl _, by unfold maxLen; omega, by simp [hl], List.take_of_length_le (by simp [hl])⟩⟩
    have HR : Hid (Roomy base w k 0 cs (.returned (.slice (some ⟨g, 0, none⟩) k k)) w) := Lib.hid ⟨g, k, hb, hg.lt, Nat.le_refl _, rfl, hown, Below.refl _ _⟩
    clear hown
    go_enter Tryz.func95, Tryz.ntmps95
    go_wp2_with fail
    go_ret
    exact HR.out
  · obtain ⟨i0, hi, hzz⟩ := Option.map_eq_some_iff.1 info_u8n
    simp only [Prod.mk.injEq] at hzz
    obtain ⟨hz0, hz1, hz2⟩ := hzz
    have hold : (Builtin.firstCells i0.size k (.slice (some ⟨g, 0, none⟩) k k)).run Tryz.prog w.drew = .ok (cs.map (Value.int .u8)).toArray w.drew :=
      run_firstCells_some w.drew i0.size k ⟨g, 0, none⟩ k k (cs.map (Value.int .u8)) (by rw [hz1]; simp [hl]) (fun j v hj => by
        have ha : (⟨g, 0, none⟩ : Addr).add j = ⟨g, j, none⟩ := by unfold Addr.add; split <;> simp_all
        rw [ha]
        exact (hg.cell j).trans hj)
    have happ : ∀ ty, (Builtin.append_ #[31, 3] ty #[.slice (some ⟨g, 0, none⟩) k k, .int .i64 n]).run Tryz.prog w =
        .ok (.slice (some ⟨w.heap.size, 0, none⟩) (k + n) (grownCap w (k + n) k 5)) (w.drew.alloc (.cells ((cs.map (Value.int .u8)).toArray ++ Builtin.zeroCells (Value.int .u8 0).cells n ++ Builtin.zeroCells (Value.int .u8 0).cells (grownCap w (k + n) k 5 - (k + n))) 5)) := fun ty =>
      Lib.run_append_grow_zeros w 31 3 ty 5 i0 (.int .u8 0) .i64 .i64 Tryz.underlying31 Tryz.underlying3 hi hz0 (some ⟨g, 0, none⟩) k k _ hold n (by omega) (by rw [hz1]; omega) (by omega) (by omega)
        (by rw [hz2]; omega) (by rw [hz2]; exact growslice_fits (by omega) (by omega))
    have hG : k + n ≤ grownCap w (k + n) k 5 := grownCap_ge w _ _ _
    have hG2 : grownCap w (k + n) k 5 ≤ maxLen := grownCap_le_maxLen w _ _ _ (by unfold maxLen; omega)
    generalize grownCap w (k + n) k 5 = cap at *
    obtain ⟨Z, hZ⟩ : ∃ Z : Array Value, (cs.map (Value.int .u8)).toArray ++ Builtin.zeroCells (Value.int .u8 0).cells n ++ Builtin.zeroCells (Value.int .u8 0).cells (cap - (k + n)) = Z := ⟨_, rfl⟩
    have hZ1 : Z.size = cap := by rw [← hZ]; simp [size_zeroCells, Value.cells, hl]; omega
    have hZ2 : Z.toList.take k = cs.map (Value.int .u8) := by
      rw [← hZ]
      simp only [Array.toList_append, List.append_assoc]
      rw [List.take_append_of_le_length (by simp [hl])]
      exact List.take_of_length_le (by simp [hl])
    rw [hZ] at happ
    have hRoomy : Roomy base w k n cs (.returned (.slice (some ⟨w.heap.size, 0, none⟩) k cap)) (w.drew.alloc (.cells Z 5)) :=
      ⟨w.heap.size, cap, hbw, by simp, hG, rfl, ⟨by simp [hl], .inr ⟨_, cap, Z, rfl, hbw, heap_alloc_new w.drew _, by omega, hG2, by omega, by simpa using hZ2⟩⟩,
        ⟨rfl, rfl, rfl, by simp, fun i hi => Below.heap_alloc w.drew _ i (Nat.lt_of_lt_of_le hi hbw)⟩⟩
    have HR := Lib.hid hRoomy
    have HA := Lib.hid happ
    unfold maxLen at hG2
    clear hRoomy happ hZ hZ1 hZ2 hold hi hz0 hz1 hz2
    have q1 : (0 : Int) < n := by omega
    go_enter Tryz.func95, Tryz.ntmps95
    go_wp2_with (at_builtin; refine Lib.wpList_append_run _ rfl _ _ _ _ rfl _ _ rfl rfl _ _ (HA.out _) ?_)
    go_ret
    exact HR.out
end Go.Proofs.YtjikjdignhdipaaGreatDoor
