/- The walk over nums.GetLong. -/
import Derived.Test.YtgecfcdafbedaaaGreatZRParamsBodies18
import Derived.Test.YtgecfcdafbedaaaGreatZRParamsBodies13
import Derived.Test.YtgecfcdafbedaaaGreatZRParamsBodies16
namespace Go.Proofs.YtgecfcdafbedaaaGreat
open Go.RowKit
set_option linter.unusedSimpArgs false
set_option linter.unusedVariables false

/-- The words of a long number, the lowest first. -/
def longGot (bs : List Int) (n0 : Nat) : List Int := if n0 < 32 then [0, 0, 0, 0] else [told ((bs.drop 24).take 8), told ((bs.drop 16).take 8), told ((bs.drop 8).take 8), told ((bs.drop 0).take 8)]
def longE (n0 : Nat) : Int := if n0 < 32 then 5 else 0
def longOf (l : List Int) : Value := .agg (l.map (Value.int .u64)).toArray

/-- What is in four cells stays in them when it is put into them anew. -/
theorem Blk.again4 {w : World} {g : Nat} {t : TypeId} {a b c d : Value} (h : Blk w g t [a, b, c, d]) :
    Blk ((((w.setCell ⟨g, 0, none⟩ a).setCell ⟨g, 1, none⟩ b).setCell ⟨g, 2, none⟩ c).setCell ⟨g, 3, none⟩ d) g t [a, b, c, d] := by
  simpa using (((h.put 0 a).put 1 b).put 2 c).put 3 d

set_option maxRecDepth 100000 in
set_option maxHeartbeats 1000000 in
theorem getlong_any (A0 : Option Addr) (n0 c0 : Nat) (bs : List Int) (w : World) (r0 : Rd w .u8 A0 n0 bs) (l0 : n0 ≤ c0) :
    Calls Tryz.prog 76 #[.slice A0 n0 c0] w fun e w' => e = .returned (.tuple #[longOf (longGot bs n0), .int .i64 (longE n0)]) ∧ Below w.heap.size w w' := by
  have hbig := r0.big
  have hB1 : Below w.heap.size w (w.alloc (.cells ((List.replicate 4 (0 : Int)).map (Value.int .u64)).toArray 31)) := (Below.refl _ _).alloc (Nat.le_refl _) _
  have hk1 : Blk (w.alloc (.cells ((List.replicate 4 (0 : Int)).map (Value.int .u64)).toArray 31)) w.heap.size 31 ((List.replicate 4 (0 : Int)).map (Value.int .u64)) := Blk.new _ _ _
  by_cases ks : n0 < 32
  · have e1 : longGot bs n0 = [0, 0, 0, 0] := by unfold longGot; rw [if_pos ks]
    have e2 : longE n0 = 5 := by unfold longE; rw [if_pos ks]
    rw [e1, e2]
    clear e1 e2
    have HK := Lib.hid hk1
    have HB := Lib.hid hB1
    clear hk1 hB1
    go_enter Tryz.func76, Tryz.ntmps76
    go_wp2_with (refine wpList_value (o := ⟨some 2, .alloc 31, _, _, _, _⟩) (v := .pointer (some ⟨w.heap.size, 0, none⟩)) (w' := w.alloc (.cells ((List.replicate 4 (0 : Int)).map (Value.int .u64)).toArray 31)) rfl (by kernel_rfl) ?_)
    go_loopw [3, 6] (fun e i wr => e = .int .i64 0 ∧ i = .int .i64 0 ∧ wr = w.alloc (.cells ((List.replicate 4 (0 : Int)).map (Value.int .u64)).toArray 31)) (fun _ _ _ => 0)
    case atStart => exact ⟨rfl, rfl, rfl⟩
    case round =>
      obtain ⟨rfl, rfl, rfl⟩ := hrel
      go_wp2
      refine bodyPost_ret (results_row_tmp rfl _ _ w.heap.size [.int .u64 0, .int .u64 0, .int .u64 0, .int .u64 0] _ rfl ?_ Tryz.underlying31 rfl (by kernel_rfl)) rfl ?_
      · first | exact HK.out.again4 | exact HK.out
      · exact ⟨rfl, by first | exact HB.out | exact ((((HB.out.setCell (Nat.le_refl _) _).setCell (Nat.le_refl _) _).setCell (Nat.le_refl _) _).setCell (Nat.le_refl _) _)⟩
  · have e1 : longGot bs n0 = (List.range 4).map fun i => told ((bs.drop (24 - 8 * i)).take 8) := by unfold longGot; rw [if_neg ks]; rfl
    have e2 : longE n0 = 0 := by unfold longE; rw [if_neg ks]
    rw [e1, e2]
    clear e1 e2
    obtain ⟨b, off, rfl, hb, hc⟩ := r0.row (by omega)
    clear hc
    have hget : ∀ (i : Nat) (W : World), i < 4 → Below w.heap.size w W → Calls Tryz.prog 72 #[.slice (some ⟨b, off + (24 - 8 * i), none⟩) 8 (c0 - (24 - 8 * i)), .int .i64 8] W fun e W' => e = .returned (.tuple #[.int .u64 (told ((bs.drop (24 - 8 * i)).take 8)), .int .i64 0]) ∧ Below W.heap.size W W' := by
      intro i W hi hW
      have r1 := (r0.below hW).sub (24 - 8 * i) 8 (by omega)
      refine (get_any _ 8 (c0 - (24 - 8 * i)) _ 8 W r1 (by omega)).mono ?_
      rintro e W' ⟨rfl, h⟩
      have g1 : getE 8 8 = 0 := by decide
      refine ⟨?_, h⟩
      rw [getN, g1, if_pos rfl, show (8 : Int).toNat = 8 from rfl, List.take_take]
      rfl
    have HG := Lib.hid hget
    have HK := Lib.hid hk1
    have HB := Lib.hid hB1
    clear hk1 hB1 hget
    go_enter Tryz.func76, Tryz.ntmps76
    go_wp2_with (refine wpList_value (o := ⟨some 2, .alloc 31, _, _, _, _⟩) (v := .pointer (some ⟨w.heap.size, 0, none⟩)) (w' := w.alloc (.cells ((List.replicate 4 (0 : Int)).map (Value.int .u64)).toArray 31)) rfl (by kernel_rfl) ?_)
    go_loopw [3, 6] (fun e i wr => ∃ k : Nat, k ≤ 4 ∧ e = .int .i64 0 ∧ i = .int .i64 k ∧ Below w.heap.size w wr ∧ w.heap.size < wr.heap.size ∧
        Blk wr w.heap.size 31 (((List.range k).map (fun i => told ((bs.drop (24 - 8 * i)).take 8)) ++ List.replicate (4 - k) 0).map (Value.int .u64))) (fun _ i _ => 4 - (intOf i).toNat)
    case atStart => exact ⟨0, by omega, rfl, rfl, HB.out, HK.out.lt, HK.out⟩
    case round =>
      obtain ⟨k, hk, rfl, rfl, hB, hlt, hblk⟩ := hrel
      by_cases hk4 : k < 4
      · have hg := HG.out k wr hk4 hB
        obtain ⟨f, hf⟩ : ∃ f, 24 - 8 * k = f := ⟨_, rfl⟩
        rw [hf] at hg
        have hF : (32 : Int) - 8 * ((k : Int) + 1) = (f : Int) := by omega
        have hfr := hblk.free k
        go_wp2_with fail
        refine hg.mono ?_
        rintro e W' ⟨rfl, hB'⟩
        have hblk' := hblk.below hB' hlt
        have hfr' := hblk'.free k
        have hce := hblk'.int_at k (by simp; omega)
        have hput := hblk'.int_put k (told ((bs.drop f).take 8))
        have hl : ((List.range k).map (fun i => told ((bs.drop (24 - 8 * i)).take 8)) ++ List.replicate (4 - k) 0).set k (told ((bs.drop f).take 8)) = (List.range (k + 1)).map (fun i => told ((bs.drop (24 - 8 * i)).take 8)) ++ List.replicate (4 - (k + 1)) 0 := by
          rw [List.set_append, if_neg (by simp), List.range_succ, List.map_append, List.length_map, List.length_range, Nat.sub_self, show 4 - k = (4 - (k + 1)) + 1 by omega, List.replicate_succ]
          simp [hf]
        rw [hl] at hput
        have HP := Lib.hid hput
        clear hput hl
        generalize (((List.range k).map (fun i => told ((bs.drop (24 - 8 * i)).take 8)) ++ List.replicate (4 - k) 0)[k]?.getD 0) = old at *
        go_wp2_with fail
        refine ⟨⟨k + 1, by omega, rfl, by go_num, (hB.trans (hB'.mono hB.size)).setCell (Nat.le_refl _) _, by simpa [World.setCell] using Nat.lt_of_lt_of_le hlt hB'.size, HP.out⟩, by simp [intOf]; omega⟩
      · obtain rfl : k = 4 := by omega
        have z0 := hblk.cell 0
        have z1 := hblk.cell 1
        have z2 := hblk.cell 2
        have z3 := hblk.cell 3
        have f0 := hblk.free 0
        have f1 := hblk.free 1
        have f2 := hblk.free 2
        have f3 := hblk.free 3
        simp [List.range_succ] at z0 z1 z2 z3
        go_wp2
        simp [List.range_succ] at hblk
        refine bodyPost_ret (results_row_tmp rfl _ _ w.heap.size _ _ rfl hblk.again4 Tryz.underlying31 rfl (by kernel_rfl)) rfl ?_
        exact ⟨rfl, ((((hB.setCell (Nat.le_refl _) _).setCell (Nat.le_refl _) _).setCell (Nat.le_refl _) _).setCell (Nat.le_refl _) _)⟩
end Go.Proofs.YtgecfcdafbedaaaGreat
