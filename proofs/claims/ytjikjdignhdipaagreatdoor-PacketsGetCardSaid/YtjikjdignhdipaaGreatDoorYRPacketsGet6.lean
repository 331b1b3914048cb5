/- append(v, make([]byte, k)...) on a row of the call's own; The walks over nums.Put. -/
import Derived.Test.YtjikjdignhdipaaGreatDoorYRPacketsGet3
import Derived.Test.YtjikjdignhdipaaGreatDoorYRPacketsGet2
namespace Go.Proofs.YtjikjdignhdipaaGreatDoor
open Go.RowKit
set_option linter.unusedSimpArgs false
set_option linter.unusedVariables false

theorem zeroCells_list (k : Nat) : (Builtin.zeroCells #[Value.int .u8 0] k).toList = (List.replicate k (0 : Int)).map (Value.int .u8) := by
  rw [List.map_replicate]
  apply List.ext_getElem?
  intro i
  by_cases h : i < k <;> simp [Builtin.zeroCells, List.getElem?_replicate, List.getElem?_range, h, Nat.mod_one]
theorem append_zeros_own {w : World} (base : Nat) (ty : TypeId) (g n cap k : Nat) (xs : List Int) (HO : w.ownsRow base 5 1 (.slice (some ⟨g, 0, none⟩) n cap) n (xs.map (Value.int .u8))) (hbase : base ≤ w.heap.size) (hn : n ≤ 70368744177664) (hk : k ≤ 70368744177664) :
    ∃ v1 w1, (Builtin.append_ #[31, 3] ty #[.slice (some ⟨g, 0, none⟩) n cap, .int .i64 k]).run Tryz.prog w = .ok v1 w1 ∧ w1.ownsRow base 5 1 v1 (n + k) ((xs ++ List.replicate k 0).map (Value.int .u8)) ∧ w.grownBy w1 (some g) ∧ (v1.ownBlock = some g ∨ v1.ownBlock = some w.heap.size) := by
  obtain ⟨i0, hi, hzz⟩ := Option.map_eq_some_iff.1 info_u8n
  simp only [Prod.mk.injEq] at hzz
  obtain ⟨hz0, hz1, hz2⟩ := hzz
  have hxl : xs.length = n := by have := HO.1; simpa using this
  have hwk : IntKind.i64.wrap (k : Int) = k := IntWalk.i64_in _ (by omega)
  rcases HO.2 with ⟨h, _⟩ | ⟨g', cap', cur, e, hb, hh, hc, hm, hs, ht⟩
  · cases h
  · injection e with e1 _ e2
    injection e1 with e1
    injection e1 with e1
    subst e1 e2
    rw [Nat.mul_one] at hs ht
    by_cases hroom : n + k ≤ cap
    · have hz := zeroCells_list k
      have hst := run_storeCells_at Tryz.prog g n 5 (Builtin.zeroCells #[Value.int .u8 0] k).toList 0 cur w hh (by rw [hz]; simp; omega) (by rw [hz]; exact one_u8 _)
      simp only [Nat.add_zero] at hst
      have h48i : ¬ (281474976710656 < (k : Int) * (i0.bytes : Int)) := by rw [hz2]; omega
      have hneg : ¬ ((k : Int) < 0) := by omega
      have h48j : ¬ ((281474976710656 : Int) < (k : Int)) := by omega
      have hrun : (Builtin.append_ #[31, 3] ty #[.slice (some ⟨g, 0, none⟩) n cap, .int .i64 k]).run Tryz.prog w = .ok (.slice (some ⟨g, 0, none⟩) (n + k) cap) (w.setRow g (cur.toList.take n ++ (Builtin.zeroCells #[Value.int .u8 0] k).toList ++ cur.toList.drop (n + (Builtin.zeroCells #[Value.int .u8 0] k).toList.length)).toArray) := by
        by_cases hk0 : k = 0
        · subst hk0
          have e0 : (Builtin.zeroCells #[Value.int .u8 0] 0).toList = [] := by rw [zeroCells_list]; rfl
          rw [e0] at hst
          have hw0 : IntKind.i64.wrap 0 = 0 := by decide
          have hr0 : n ≤ cap := by omega
          simp [hw0, hr0, Builtin.append_, run_underlying Tryz.underlying31, run_underlying Tryz.underlying3, sizeOf, typeInfo, zeroValue, hi, hz0, hz1, hz2, asInt, asIntOf, hroom, Addr.add_lit, hst, e0]
        · simp [Builtin.append_, run_underlying Tryz.underlying31, run_underlying Tryz.underlying3, sizeOf, typeInfo, zeroValue, hi, hz0, hz1, hz2, asInt, asIntOf, hwk, hneg, h48i, h48j, hroom, hk0, Addr.add_lit, Value.cells, hst]
      refine ⟨_, _, hrun, ⟨by simp [hxl], .inr ⟨g, cap, _, rfl, hb, setRow_heap w g cur _ 5 _ hh, hroom, hm, ?_, ?_⟩⟩, ⟨rfl, rfl, rfl, by simp, fun i _ hne => setRow_other w g i _ (fun e => hne (by rw [e]))⟩, .inl rfl⟩
      · rw [hz]; simp; omega
      · rw [hz, ht, Nat.mul_one]
        have : n + k = (xs.map (Value.int .u8) ++ (List.replicate k (0 : Int)).map (Value.int .u8)).length := by simp [hxl]
        rw [this, List.take_left, List.map_append]
    · have hk0 : 0 < k := by omega
      have hold : (Builtin.firstCells i0.size n (.slice (some ⟨g, 0, none⟩) n cap)).run Tryz.prog w.drew = .ok (xs.map (Value.int .u8)).toArray w.drew :=
        run_firstCells_some w.drew i0.size n ⟨g, 0, none⟩ n cap (xs.map (Value.int .u8)) (by rw [hz1]; simp [hxl]) (fun j v hj => (HO.cells (g := g) rfl j v hj))
      have happ := Lib.run_append_grow_zeros w 31 3 ty 5 i0 (.int .u8 0) .i64 .i64 Tryz.underlying31 Tryz.underlying3 hi hz0 (some ⟨g, 0, none⟩) n cap _ hold k hk0 (by rw [hz1]; omega) (by omega) (by omega)
        (by rw [hz2]; omega) (by rw [hz2]; exact growslice_fits (by omega) (by omega))
      have hG : n + k ≤ grownCap w (n + k) cap 5 := grownCap_ge w _ _ _
      have hG2 : grownCap w (n + k) cap 5 ≤ maxLen := grownCap_le_maxLen w _ _ _ (by unfold maxLen; omega)
      refine ⟨_, _, happ, ⟨by simp [hxl], .inr ⟨w.heap.size, _, _, rfl, hbase, heap_alloc_new w.drew _, hG, hG2, ?_, ?_⟩⟩, ⟨rfl, rfl, rfl, by simp, fun i hi _ => Below.heap_alloc w.drew _ i hi⟩, .inr rfl⟩
      · simp [size_zeroCells, Value.cells, hxl]; omega
      · simp only [Array.toList_append, Value.cells, zeroCells_list, List.append_assoc]
        rw [← List.append_assoc, Nat.mul_one, List.take_append_of_le_length (by simp [hxl]), List.take_of_length_le (by simp [hxl]), List.map_append]
end Go.Proofs.YtjikjdignhdipaaGreatDoor

namespace Go.Proofs.YtjikjdignhdipaaGreatDoor
open Go.RowKit
set_option linter.unusedSimpArgs false
set_option linter.unusedVariables false

theorem Made.before {w w1 w' : World} {bytes : List Int} {e : Ending} (h : Made w1 bytes e w') (hb : Below w.heap.size w w1) : Made w bytes e w' := by
  obtain ⟨g, hg, he, hk, hB⟩ := h
  exact ⟨g, Nat.le_trans hb.size hg, he, hk, hb.trans (hB.mono hb.size)⟩

/-- How many bytes Put takes. -/
def putMany (k : Int) : Nat := (max 0 (min 8 k)).toNat

set_option maxHeartbeats 400000 in
theorem put_any (A0 : Option Addr) (n0 c0 : Nat) (bs : List Int) (n k : Int) (w : World) (r0 : Rd w .u8 A0 n0 bs) (l0 : n0 ≤ c0) (h0 : 0 ≤ n) (h1 : n ≤ 18446744073709551615) :
    Calls Tryz.prog 26 #[.slice A0 n0 c0, .int .u64 n, .int .i64 k] w (Made w (bs ++ be n (putMany k))) := by
  have hB1 : Below w.heap.size w (w.alloc (.cells #[.int .u64 n] 68)) := (Below.refl _ _).alloc (Nat.le_refl _) _
  have r1 := r0.below hB1
  have hrow : ∀ each : Nat, each ≤ 8 → Calls Tryz.prog 94 #[.slice A0 n0 c0, .int .i64 (each : Int), .slice (some ⟨w.heap.size, 0, none⟩) 1 1] (w.alloc (.cells #[.int .u64 n] 68)) (Made w (bs ++ be n each)) := fun each he => by
    have := row_any A0 n0 c0 bs each w.heap.size 1 1 [⟨n, h0, h1⟩] (w.alloc (.cells #[.int .u64 n] 68)) r1 l0 he rfl (by omega) (by simp)
      (fun j hj => by obtain rfl : j = 0 := by omega
                      exact (Blk.new w 68 [.int .u64 n]).cell 0) [n] rfl
    refine this.mono fun e w' hm => ?_
    have hm' : Made (w.alloc (.cells #[.int .u64 n] 68)) (bs ++ be n each) e w' := by simpa [flat] using hm
    exact hm'.before hB1
  have HR := Lib.hid hrow
  clear hrow r1
  have fin : ∀ (each : Nat) (e : Ending) (w' : World), putMany k = each → Made w (bs ++ be n each) e w' → Made w (bs ++ be n (putMany k)) e w' := fun each e w' he hm => by rw [he]; exact hm
  have FIN := Lib.hid fin
  clear fin
  by_cases k0 : k ≤ 0
  · have e1 : putMany k = 0 := by unfold putMany; omega
    have HE := Lib.hid e1
    clear e1
    go_enter Tryz.func26, Tryz.ntmps26
    go_wp2_with fail
    refine (HR.out 0 (by omega)).mono ?_
    rintro e w' ⟨g, hg, rfl, hk, hB⟩
    go_wp2_with fail
    go_ret
    exact FIN.out 0 _ _ HE.out ⟨g, hg, by simp, hk, hB⟩
  · by_cases k8 : 8 ≤ k
    · have e1 : putMany k = 8 := by unfold putMany; omega
      have HE := Lib.hid e1
      clear e1
      go_enter Tryz.func26, Tryz.ntmps26
      go_wp2_with fail
      refine (HR.out 8 (by omega)).mono ?_
      rintro e w' ⟨g, hg, rfl, hk, hB⟩
      go_wp2_with fail
      go_ret
      exact FIN.out 8 _ _ HE.out ⟨g, hg, by simp, hk, hB⟩
    · obtain ⟨m, rfl⟩ := Int.eq_ofNat_of_zero_le (show 0 ≤ k by omega)
      have e1 : putMany (m : Int) = m := by unfold putMany; omega
      have HE := Lib.hid e1
      clear e1
      go_enter Tryz.func26, Tryz.ntmps26
      go_wp2_with fail
      refine (HR.out m (by omega)).mono ?_
      rintro e w' ⟨g, hg, rfl, hk, hB⟩
      go_wp2_with fail
      go_ret
      exact FIN.out m _ _ HE.out ⟨g, hg, by simp, hk, hB⟩
end Go.Proofs.YtjikjdignhdipaaGreatDoor
