/- The walks over packets.may, params.may, params.filled; pieces in memory; append(v, make([]byte, k)...) on a row of the call's own. -/
import Derived.Test.YtgecfcdafbedaaaGreatZRParamsBodies13
import Derived.Test.YtgecfcdafbedaaaGreatZRParamsBodies19
namespace Go.Proofs.YtgecfcdafbedaaaGreat
open Go.RowKit
set_option linter.unusedSimpArgs false
set_option linter.unusedVariables false

theorem filled_any (n : Nat) (w : World) (h : n ≤ 140737488351232) : Calls Tryz.prog 70 #[.int .i64 n] w fun e w' => e = .returned (.int .i64 (fill8 n)) ∧ w = w' := by
  have e1 : IntKind.i64.wrap ((n : Int) + 8) = (n : Int) + 8 := IntWalk.i64_in _ (by omega)
  have e2 : IntKind.i64.wrap ((n : Int) + 8 - 1) = (n : Int) + 8 - 1 := IntWalk.i64_in _ (by omega)
  go_enter Tryz.func70, Tryz.ntmps70
  go_wp2_with fail
  go_ret
  exact ⟨ret_int (by unfold fill8; omega), rfl⟩

/-- A list of pieces in memory. -/
structure Ps (w : World) (A : Option Addr) (n : Nat) (ps : List Piece) : Prop where
  len : ps.length = n
  big : n ≤ 4398046510976
  row : 0 < n → ∃ b off, A = some ⟨b, off, none⟩ ∧ b < w.heap.size ∧ ∀ j, j < n → ∃ t body B m c, ps[j]? = some (t, body) ∧ (0 ≤ t ∧ t ≤ 65535) ∧ w.cell? ⟨b, off + j * 2, none⟩ = some (.int .u16 t) ∧ w.cell? ⟨b, off + j * 2 + 1, none⟩ = some (.slice B m c) ∧ Rd w .u8 B m body ∧ m ≤ c ∧ (B = none → c = 0)
theorem Ps.below {w w' : World} {A : Option Addr} {n : Nat} {ps : List Piece} (h : Ps w A n ps) (hB : Below w.heap.size w w') : Ps w' A n ps :=
  ⟨h.len, h.big, fun h0 => by
    obtain ⟨b, off, e, hb, hc⟩ := h.row h0
    refine ⟨b, off, e, Nat.lt_of_lt_of_le hb hB.size, fun j hj => ?_⟩
    obtain ⟨t, body, B, m, c, h1, h2, h3, h4, h5, h6, h7⟩ := hc j hj
    exact ⟨t, body, B, m, c, h1, h2, (hB.cell (p := ⟨b, off + j * 2, none⟩) hb).trans h3, (hB.cell (p := ⟨b, off + j * 2 + 1, none⟩) hb).trans h4, h5.below hB, h6, h7⟩⟩
theorem ps_nil (w : World) : Ps w none 0 [] := ⟨rfl, by omega, fun h => absurd h (by omega)⟩
/-- The type of the last piece of a beginning. -/
def lastT (ps : List Piece) (k : Nat) : Int := if k = 0 then 0 else ((ps[k - 1]?).map (·.1)).getD 0
theorem rises_take : ∀ (ps : List Piece) (last : Int) (k : Nat), k < ps.length → rises last (ps.take k) = true → ∀ p, ps[k]? = some p → rises last (ps.take (k + 1)) = decide ((if k = 0 then last else ((ps[k - 1]?).map (·.1)).getD 0) < p.1)
  | [], _, k, h, _, _, _ => by simp at h
  | q :: ps, last, 0, _, _, p, hp => by
    simp at hp; subst hp; simp [rises]
  | q :: ps, last, k + 1, h, hr, p, hp => by
    simp only [List.take_succ_cons, rises, Bool.and_eq_true, decide_eq_true_eq] at hr ⊢
    have := rises_take ps q.1 k (by simpa using h) hr.2 p (by simpa using hp)
    rw [this, decide_eq_true hr.1, Bool.true_and]
    cases k with
    | zero => simp
    | succ k => simp
theorem rises_more : ∀ (ps : List Piece) (last : Int) (k : Nat), rises last (ps.take k) = false → rises last ps = false
  | [], _, k, h => by simp [rises] at h
  | q :: ps, last, 0, h => by simp [rises] at h
  | q :: ps, last, k + 1, h => by
    simp only [List.take_succ_cons, rises, Bool.and_eq_false_iff] at h ⊢
    rcases h with h | h
    · exact .inl h
    · exact .inr (rises_more ps q.1 k h)

set_option maxRecDepth 100000 in
set_option maxHeartbeats 1000000 in
theorem pamay_any (A0 : Option Addr) (n0 c0 : Nat) (ps : List Piece) (w : World) (h : Ps w A0 n0 ps) :
    Calls Tryz.prog 69 #[.slice A0 n0 c0] w fun e w' => e = .returned (.bool (rises 0 ps)) ∧ Below w.heap.size w w' := by
  have hbig := h.big
  have hl := h.len
  go_enter Tryz.func69, Tryz.ntmps69
  go_wp2_with fail
  go_loopw [3, 8] (fun t i wr => ∃ k : Nat, k ≤ n0 ∧ i = .int .i64 k ∧ rises 0 (ps.take k) = true ∧ t = .int .u16 (if k = 0 then 0 else ((ps[k - 1]?).map (·.1)).getD 0) ∧ Below w.heap.size w wr) (fun _ i _ => n0 - (intOf i).toNat)
  case atStart => exact ⟨0, Nat.zero_le _, rfl, by simp [rises], rfl, Below.refl _ _⟩
  case round =>
    obtain ⟨k, hk, rfl, hr, rfl, hB⟩ := hrel
    by_cases hlt : k < n0
    · obtain ⟨b, off, rfl, _, hc⟩ := (h.below hB).row (by omega)
      obtain ⟨t, body, B, m, c, h1, h2, h3, h4, _, _, _⟩ := hc k hlt
      have hrt := rises_take ps 0 k (by omega) hr (t, body) h1
      have hmo := rises_more ps 0 (k + 1)
      have hnx : (if k + 1 = 0 then 0 else ((ps[k + 1 - 1]?).map (·.1)).getD 0) = t := by simp [h1]
      generalize (if k = 0 then (0 : Int) else ((ps[k - 1]?).map (·.1)).getD 0) = last at *
      have i0 : (0 : Int) ≤ (k : Int) := by omega
      have i1 : (k : Int) < (n0 : Int) := by omega
      have HRT := Lib.hid hrt
      have HMO := Lib.hid hmo
      have HNX := Lib.hid hnx
      have HBB := Lib.hid hB
      have HR := Lib.hid hr
      have H1 := Lib.hid h1
      clear hrt hmo hnx hB hr h1 hc hl
      by_cases hlast : last < t
      · go_wp2_with fail
        refine ⟨⟨k + 1, by omega, by go_num, by rw [HRT.out]; simpa using hlast, by rw [HNX.out], HBB.out.alloc HBB.out.size _⟩, by simp [intOf]; omega⟩
      · go_wp2_with fail
        go_ret
        refine ⟨ret_bool ?_, HBB.out.alloc HBB.out.size _⟩
        exact (HMO.out (by rw [HRT.out]; simpa using hlast)).symm
    · obtain rfl : k = n0 := by omega
      have hp : ps.take k = ps := by rw [List.take_of_length_le (by omega)]
      rw [hp] at hr
      have HR := Lib.hid hr
      clear hr
      generalize (if k = 0 then (0 : Int) else ((ps[k - 1]?).map (·.1)).getD 0) = last at *
      go_wp2_with fail
      go_ret
      exact ⟨ret_bool HR.out.symm, hB⟩
end Go.Proofs.YtgecfcdafbedaaaGreat

namespace Go.Proofs.YtgecfcdafbedaaaGreat
open Go.RowKit
set_option linter.unusedSimpArgs false
set_option linter.unusedVariables false

theorem zeroCells_list (k : Nat) : (Builtin.zeroCells #[Value.int .u8 0] k).toList = (List.replicate k (0 : Int)).map (Value.int .u8) := by
  rw [List.map_replicate]
  apply List.ext_getElem?
  intro i
  by_cases h : i < k <;> simp [Builtin.zeroCells, List.getElem?_replicate, List.getElem?_range, h, Nat.mod_one]
theorem append_zeros_own {w : World} (base : Nat) (ty : TypeId) (g n cap k : Nat) (xs : List Int) (HO : w.ownsRow base 5 1 (.slice (some ⟨g, 0, none⟩) n cap) n (xs.map (Value.int .u8))) (hbase : base ≤ w.heap.size) (hn : n ≤ 70368744177664) (hk : k ≤ 70368744177664) :
    ∃ v1 w1, (Builtin.append_ #[22, 3] ty #[.slice (some ⟨g, 0, none⟩) n cap, .int .i64 k]).run Tryz.prog w = .ok v1 w1 ∧ w1.ownsRow base 5 1 v1 (n + k) ((xs ++ List.replicate k 0).map (Value.int .u8)) ∧ w.grownBy w1 (some g) ∧ (v1.ownBlock = some g ∨ v1.ownBlock = some w.heap.size) := by
  obtain ⟨i0, hi, hzz⟩ := Option.map_eq_some_iff.1 info_u8n
  simp only [Prod.mk.injEq] at hzz
  obtain ⟨hz0, hz1, hz2⟩ := hzz
  have hxl : xs.length = n := by have := HO.1; simpa using this
  have hwk : IntKind.i64.wrap (k : Int) = k := IntWalk.i64_in _ (by omega)
  rcases HO.2 with ⟨h, _⟩ | ⟨g', cap', cur, e, hb, hh, hc, hm, hs, ht⟩
  · cases h
  · injection e with e1 _ e2
    injection e1 with e1
    injection e1 with e1
    subst e1 e2
    rw [Nat.mul_one] at hs ht
    by_cases hroom : n + k ≤ cap
    · have hz := zeroCells_list k
      have hst := run_storeCells_at Tryz.prog g n 5 (Builtin.zeroCells #[Value.int .u8 0] k).toList 0 cur w hh (by rw [hz]; simp; omega) (by rw [hz]; exact one_u8 _)
      simp only [Nat.add_zero] at hst
      have h48i : ¬ (281474976710656 < (k : Int) * (i0.bytes : Int)) := by rw [hz2]; omega
      have hneg : ¬ ((k : Int) < 0) := by omega
      have h48j : ¬ ((281474976710656 : Int) < (k : Int)) := by omega
      have hrun : (Builtin.append_ #[22, 3] ty #[.slice (some ⟨g, 0, none⟩) n cap, .int .i64 k]).run Tryz.prog w = .ok (.slice (some ⟨g, 0, none⟩) (n + k) cap) (w.setRow g (cur.toList.take n ++ (Builtin.zeroCells #[Value.int .u8 0] k).toList ++ cur.toList.drop (n + (Builtin.zeroCells #[Value.int .u8 0] k).toList.length)).toArray) := by
        by_cases hk0 : k = 0
        · subst hk0
          have e0 : (Builtin.zeroCells #[Value.int .u8 0] 0).toList = [] := by rw [zeroCells_list]; rfl
          rw [e0] at hst
          have hw0 : IntKind.i64.wrap 0 = 0 := by decide
          have hr0 : n ≤ cap := by omega
          simp [hw0, hr0, Builtin.append_, run_underlying Tryz.underlying22, run_underlying Tryz.underlying3, sizeOf, typeInfo, zeroValue, hi, hz0, hz1, hz2, asInt, asIntOf, hroom, Addr.add_lit, hst, e0]
        · simp [Builtin.append_, run_underlying Tryz.underlying22, run_underlying Tryz.underlying3, sizeOf, typeInfo, zeroValue, hi, hz0, hz1, hz2, asInt, asIntOf, hwk, hneg, h48i, h48j, hroom, hk0, Addr.add_lit, Value.cells, hst]
      refine ⟨_, _, hrun, ⟨by simp [hxl], .inr ⟨g, cap, _, rfl, hb, setRow_heap w g cur _ 5 _ hh, hroom, hm, ?_, ?_⟩⟩, ⟨rfl, rfl, rfl, by simp, fun i _ hne => setRow_other w g i _ (fun e => hne (by rw [e]))⟩, .inl rfl⟩
      · rw [hz]; simp; omega
      · rw [hz, ht, Nat.mul_one]
        have : n + k = (xs.map (Value.int .u8) ++ (List.replicate k (0 : Int)).map (Value.int .u8)).length := by simp [hxl]
        rw [this, List.take_left, List.map_append]
    · have hk0 : 0 < k := by omega
      have hold : (Builtin.firstCells i0.size n (.slice (some ⟨g, 0, none⟩) n cap)).run Tryz.prog w.drew = .ok (xs.map (Value.int .u8)).toArray w.drew :=
        run_firstCells_some w.drew i0.size n ⟨g, 0, none⟩ n cap (xs.map (Value.int .u8)) (by rw [hz1]; simp [hxl]) (fun j v hj => (HO.cells (g := g) rfl j v hj))
      have happ := Lib.run_append_grow_zeros w 22 3 ty 5 i0 (.int .u8 0) .i64 .i64 Tryz.underlying22 Tryz.underlying3 hi hz0 (some ⟨g, 0, none⟩) n cap _ hold k hk0 (by rw [hz1]; omega) (by omega) (by omega)
        (by rw [hz2]; omega) (by rw [hz2]; exact growslice_fits (by omega) (by omega))
      have hG : n + k ≤ grownCap w (n + k) cap 5 := grownCap_ge w _ _ _
      have hG2 : grownCap w (n + k) cap 5 ≤ maxLen := grownCap_le_maxLen w _ _ _ (by unfold maxLen; omega)
      refine ⟨_, _, happ, ⟨by simp [hxl], .inr ⟨w.heap.size, _, _, rfl, hbase, heap_alloc_new w.drew _, hG, hG2, ?_, ?_⟩⟩, ⟨rfl, rfl, rfl, by simp, fun i hi _ => Below.heap_alloc w.drew _ i hi⟩, .inr rfl⟩
      · simp [size_zeroCells, Value.cells, hxl]; omega
      · simp only [Array.toList_append, Value.cells, zeroCells_list, List.append_assoc]
        rw [← List.append_assoc, Nat.mul_one, List.take_append_of_le_length (by simp [hxl]), List.take_of_length_le (by simp [hxl]), List.map_append]
end Go.Proofs.YtgecfcdafbedaaaGreat
