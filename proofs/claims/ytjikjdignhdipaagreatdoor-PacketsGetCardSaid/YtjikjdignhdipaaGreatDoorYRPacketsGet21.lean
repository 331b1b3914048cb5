/- The walk over TwinBytes: the same bytes in memory of the call's own, with a spare one behind them; The walk over TwinBytes, told closer: the same bytes in memory of the call's own, and the mark 77 behind them; A struct that is built, in a region that draws its order. -/
import Derived.Test.YtjikjdignhdipaaGreatDoorYRPacketsGet3
import Derived.Laws.MakeOwn
import Derived.Test.YtjikjdignhdipaaGreatDoorYRPacketsGet9
namespace Go.Proofs.YtjikjdignhdipaaGreatDoor
open Go.RowKit
set_option linter.unusedSimpArgs false
set_option linter.unusedVariables false

theorem own_take {w : World} {base : Nat} {e : TypeId} {n m c : Nat} {A : Option Addr} {xs : List Value} (h : w.ownsRow base e 1 (.slice A n c) n xs) (hm : m ≤ n) : w.ownsRow base e 1 (.slice A m c) m (xs.take m) := by
  refine ⟨by have := h.1; simp; omega, ?_⟩
  rcases h.2 with ⟨h1, h2⟩ | ⟨g, cap, cur, h1, hb, hh, hc, hx, hs, ht⟩
  · injection h1 with h3 h4 h5
    subst h3 h5
    obtain rfl : m = 0 := by omega
    exact .inl ⟨rfl, rfl⟩
  · injection h1 with h3 h4 h5
    subst h3 h5
    refine .inr ⟨g, c, cur, rfl, hb, hh, by omega, hx, hs, ?_⟩
    rw [← ht, List.take_take]; congr 1; omega
/-- New bytes with room for more. -/
def Twin (w : World) (bs : List Int) (e : Ending) (w' : World) : Prop :=
  ∃ g cap, e = .returned (.slice (some ⟨g, 0, none⟩) bs.length cap) ∧ bs.length < cap ∧ cap ≤ maxLen ∧ w.heap.size ≤ g ∧ g < w'.heap.size ∧ w'.ownsRow w.heap.size 5 1 (.slice (some ⟨g, 0, none⟩) bs.length cap) bs.length (bs.map (Value.int .u8)) ∧ Below w.heap.size w w'

set_option maxRecDepth 100000 in
set_option maxHeartbeats 1000000 in
theorem twin_any (A0 : Option Addr) (n0 c0 : Nat) (bs : List Int) (w : World) (r0 : Rd w .u8 A0 n0 bs) (l0 : n0 ≤ c0) (hn : n0 ≤ 70368744177664) :
    Calls Tryz.prog 15 #[.slice A0 n0 c0] w (Twin w bs) := by
  have hl := r0.len
  obtain ⟨i0, hi, hzz⟩ := Option.map_eq_some_iff.1 info_u8n
  simp only [Prod.mk.injEq] at hzz
  obtain ⟨hz0, hz1, hz2⟩ := hzz
  obtain ⟨w1, hmk, hown, hg⟩ := run_make_own (P := Tryz.prog) w w.heap.size 31 5 i0 (.int .u8 0) 1 Tryz.underlying31 hi hz0 hz1 .i64 .i64 (n0 + 1) (by rw [hz2]; omega) (by unfold maxLen; omega) (Nat.le_refl _)
  have hB1 : Below w.heap.size w w1 := ⟨hg.os, hg.tape, hg.output, hg.size, fun i hi => hg.block i hi (by simp)⟩
  have hst : w1.ownsRow w.heap.size 5 1 (.slice (some ⟨w.heap.size, 0, none⟩) 0 (n0 + 1)) 0 ((bs.take 0).map (Value.int .u8)) := by simpa using hown
  have HST := Lib.hid hst
  have HB := Lib.hid hB1
  clear hst hown hg hi hz0 hz1 hz2 hB1
  have e1 : ((n0 + 1 : Nat) : Int) = (n0 : Int) + 1 := by omega
  rw [e1] at hmk
  go_enter Tryz.func15, Tryz.ntmps15
  go_wp2_with fail
  go_loopw [3, 4] (fun t i wr => ∃ k : Nat, k ≤ n0 ∧ i = .int .i64 k ∧ wr.ownsRow w.heap.size 5 1 t k ((bs.take k).map (Value.int .u8)) ∧ Below w.heap.size w wr) (fun _ i _ => n0 - (intOf i).toNat)
  case atStart => exact ⟨0, Nat.zero_le _, rfl, HST.out, HB.out⟩
  case round =>
    obtain ⟨k, hk, rfl, ho, hB⟩ := hrel
    obtain ⟨AA, cc, rfl, -, -, -⟩ := own_slice ho
    by_cases hlt : k < n0
    · have rr := r0.below hB
      obtain ⟨b, off, rfl, _, hc⟩ := rr.row (by omega)
      have hcj := hc k hlt
      have htk : bs.take (k + 1) = bs.take k ++ [bs[k]?.getD 0] := by rw [List.take_succ_eq_append_getElem (by omega)]; simp [show k < bs.length by omega]
      generalize bs[k]?.getD 0 = x at *
      have i0 : (0 : Int) ≤ (k : Int) := by omega
      have i1 : (k : Int) < (n0 : Int) := by omega
      have HT := Lib.hid htk
      have HO := Lib.hid ho
      have HBB := Lib.hid hB
      clear htk ho hB hc rr hmk
      go_wp2_with (at_builtin; refine append_int (W := wr) w.heap.size rfl _ _ 31 5 .u8 1 rfl Tryz.underlying31 info_u8n (by omega) (.slice AA k cc) k (bs.take k) x rfl rfl HO.out HBB.out.size (by omega) ?_; intro v1 w2 ho2 hk2 hb2)
      go_roundw
      case rel =>
        refine ⟨k + 1, by omega, by go_num, by rw [HT.out]; exact ho2, ?_⟩
        refine below_keeps HBB.out hk2 (Nat.le_refl _) (fun i hi => ?_)
        exact (own_base HO.out i hi).1
      case measure => simp [intOf]; omega
    · obtain rfl : k = n0 := by omega
      have HO := Lib.hid ho
      have HBB := Lib.hid hB
      clear ho hB hmk
      go_wp2_with (at_builtin; refine append_int (W := wr) w.heap.size rfl _ _ 31 5 .u8 1 rfl Tryz.underlying31 info_u8n (by omega) (.slice AA k cc) k (bs.take k) 77 rfl rfl HO.out HBB.out.size (by omega) ?_; intro v1 w2 ho2 hk2 hb2; obtain ⟨g, c, rfl, hc, hg, hlt2⟩ := own_some ho2 (by omega); have hsl := fun W => slice_to W (some ⟨g, 0, none⟩) (k + 1) c k (by omega); have HHC := Lib.hid hc; have HO3 := Lib.hid ho2; clear hc ho2)
      have hc := HHC.out
      have ho2 := HO3.out
      have hcm : c ≤ maxLen := by
        obtain ⟨_, c', e, _, h, _⟩ := own_slice ho2
        injection e with _ _ e; omega
      have HO2 := own_take ho2 (m := k) (by omega)
      have HB2 := below_keeps HBB.out hk2 (Nat.le_refl _) (fun i hi => (own_base HO.out i hi).1)
      go_ret
      refine ⟨g, c, ?_, by omega, hcm, hg, hlt2, ?_, HB2⟩
      · rw [hl]; rfl
      · rw [hl]
        have := HO2
        rw [← List.map_take, List.take_append_of_le_length (by simp; omega), List.take_take, Nat.min_self, List.take_of_length_le (by omega)] at this
        exact this
end Go.Proofs.YtjikjdignhdipaaGreatDoor

namespace Go.Proofs.YtjikjdignhdipaaGreatDoor
open Go.RowKit
set_option linter.unusedSimpArgs false
set_option linter.unusedVariables false

/-- New bytes with room for more. -/
def Twin2 (w : World) (bs : List Int) (e : Ending) (w' : World) : Prop :=
  ∃ g cap, e = .returned (.slice (some ⟨g, 0, none⟩) bs.length cap) ∧ bs.length < cap ∧ cap ≤ maxLen ∧ w.heap.size ≤ g ∧ g < w'.heap.size ∧ w'.ownsRow w.heap.size 5 1 (.slice (some ⟨g, 0, none⟩) (bs.length + 1) cap) (bs.length + 1) ((bs ++ [77]).map (Value.int .u8)) ∧ Below w.heap.size w w'

set_option maxRecDepth 100000 in
set_option maxHeartbeats 1000000 in
theorem twin2_any (A0 : Option Addr) (n0 c0 : Nat) (bs : List Int) (w : World) (r0 : Rd w .u8 A0 n0 bs) (l0 : n0 ≤ c0) (hn : n0 ≤ 70368744177664) :
    Calls Tryz.prog 15 #[.slice A0 n0 c0] w (Twin2 w bs) := by
  have hl := r0.len
  obtain ⟨i0, hi, hzz⟩ := Option.map_eq_some_iff.1 info_u8n
  simp only [Prod.mk.injEq] at hzz
  obtain ⟨hz0, hz1, hz2⟩ := hzz
  obtain ⟨w1, hmk, hown, hg⟩ := run_make_own (P := Tryz.prog) w w.heap.size 31 5 i0 (.int .u8 0) 1 Tryz.underlying31 hi hz0 hz1 .i64 .i64 (n0 + 1) (by rw [hz2]; omega) (by unfold maxLen; omega) (Nat.le_refl _)
  have hB1 : Below w.heap.size w w1 := ⟨hg.os, hg.tape, hg.output, hg.size, fun i hi => hg.block i hi (by simp)⟩
  have hst : w1.ownsRow w.heap.size 5 1 (.slice (some ⟨w.heap.size, 0, none⟩) 0 (n0 + 1)) 0 ((bs.take 0).map (Value.int .u8)) := by simpa using hown
  have HST := Lib.hid hst
  have HB := Lib.hid hB1
  clear hst hown hg hi hz0 hz1 hz2 hB1
  have e1 : ((n0 + 1 : Nat) : Int) = (n0 : Int) + 1 := by omega
  rw [e1] at hmk
  go_enter Tryz.func15, Tryz.ntmps15
  go_wp2_with fail
  go_loopw [3, 4] (fun t i wr => ∃ k : Nat, k ≤ n0 ∧ i = .int .i64 k ∧ wr.ownsRow w.heap.size 5 1 t k ((bs.take k).map (Value.int .u8)) ∧ Below w.heap.size w wr) (fun _ i _ => n0 - (intOf i).toNat)
  case atStart => exact ⟨0, Nat.zero_le _, rfl, HST.out, HB.out⟩
  case round =>
    obtain ⟨k, hk, rfl, ho, hB⟩ := hrel
    obtain ⟨AA, cc, rfl, -, -, -⟩ := own_slice ho
    by_cases hlt : k < n0
    · have rr := r0.below hB
      obtain ⟨b, off, rfl, _, hc⟩ := rr.row (by omega)
      have hcj := hc k hlt
      have htk : bs.take (k + 1) = bs.take k ++ [bs[k]?.getD 0] := by rw [List.take_succ_eq_append_getElem (by omega)]; simp [show k < bs.length by omega]
      generalize bs[k]?.getD 0 = x at *
      have i0 : (0 : Int) ≤ (k : Int) := by omega
      have i1 : (k : Int) < (n0 : Int) := by omega
      have HT := Lib.hid htk
      have HO := Lib.hid ho
      have HBB := Lib.hid hB
      clear htk ho hB hc rr hmk
      go_wp2_with (at_builtin; refine append_int (W := wr) w.heap.size rfl _ _ 31 5 .u8 1 rfl Tryz.underlying31 info_u8n (by omega) (.slice AA k cc) k (bs.take k) x rfl rfl HO.out HBB.out.size (by omega) ?_; intro v1 w2 ho2 hk2 hb2)
      go_roundw
      case rel =>
        refine ⟨k + 1, by omega, by go_num, by rw [HT.out]; exact ho2, ?_⟩
        refine below_keeps HBB.out hk2 (Nat.le_refl _) (fun i hi => ?_)
        exact (own_base HO.out i hi).1
      case measure => simp [intOf]; omega
    · obtain rfl : k = n0 := by omega
      have HO := Lib.hid ho
      have HBB := Lib.hid hB
      clear ho hB hmk
      go_wp2_with (at_builtin; refine append_int (W := wr) w.heap.size rfl _ _ 31 5 .u8 1 rfl Tryz.underlying31 info_u8n (by omega) (.slice AA k cc) k (bs.take k) 77 rfl rfl HO.out HBB.out.size (by omega) ?_; intro v1 w2 ho2 hk2 hb2; obtain ⟨g, c, rfl, hc, hg, hlt2⟩ := own_some ho2 (by omega); have hsl := fun W => slice_to W (some ⟨g, 0, none⟩) (k + 1) c k (by omega); have HHC := Lib.hid hc; have HO3 := Lib.hid ho2; clear hc ho2)
      have hc := HHC.out
      have ho2 := HO3.out
      have hcm : c ≤ maxLen := by
        obtain ⟨_, c', e, _, h, _⟩ := own_slice ho2
        injection e with _ _ e; omega
      have HB2 := below_keeps HBB.out hk2 (Nat.le_refl _) (fun i hi => (own_base HO.out i hi).1)
      go_ret
      refine ⟨g, c, ?_, by omega, hcm, hg, hlt2, ?_, HB2⟩
      · rw [hl]; rfl
      · rw [hl]
        have := ho2
        rw [List.take_of_length_le (by omega)] at this
        exact this
end Go.Proofs.YtjikjdignhdipaaGreatDoor

namespace Go.Proofs.YtjikjdignhdipaaGreatDoor
open Go.RowKit
theorem yieldsIf_buildG {P : Program} {ops : Array Oper} {a : Act} {S : World → Prop} {op : Oper} (hw : Region.wanted op (yielded ops a.tmps) = true) (ty : TypeId) (parts : Array (Nat × Operand)) (ho : op.op = .build ty parts) (v : Value)
    (hr : ∀ W, (Instr.build ty (parts.map fun (i, x) => (i, a.eval x))).run P W = .ok v W) : YieldsIf P ops S op v a :=
  .inl ⟨hw, fun w _ => by
    unfold execOp
    simp only [ho, Sem.run_bind, Sem.run_pure, Result.andThen_ok, hr]⟩
end Go.Proofs.YtjikjdignhdipaaGreatDoor
