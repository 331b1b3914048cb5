/- What nums.Get answers: plain; The walks over nums.Get. -/
import Derived.Test.YtadpgodmkodgdaaXRGuidesRoom2
namespace Go.Proofs.Ytadpgodmkodgdaa
open Go.RowKit
set_option linter.unusedSimpArgs false
set_option linter.unusedVariables false

/-- The error of Get, and its number. -/
def getE (n0 : Nat) (k : Int) : Int := if k < 0 ∨ 8 < k then 1 else if (n0 : Int) < k then 5 else 0
def getN (bs : List Int) (n0 : Nat) (k : Int) : Int := if getE n0 k = 0 then told (bs.take k.toNat) else 0
theorem rd_bytes {w : World} {A : Option Addr} {n : Nat} {xs : List Int} (h : Rd w .u8 A n xs) : ∀ x ∈ xs, 0 ≤ x ∧ x ≤ 255 := fun x hx => wf_bounds_u8 (h.wf x hx)
theorem told8 (l : List Int) (h : ∀ x ∈ l, 0 ≤ x ∧ x ≤ 255) (hl : l.length ≤ 7) : 0 ≤ told l ∧ told l < 72057594037927936 := by
  have h1 := told_bounds l h
  have h2 : pow256 l.length ≤ 72057594037927936 := by
    rcases l with _ | ⟨_, _ | ⟨_, _ | ⟨_, _ | ⟨_, _ | ⟨_, _ | ⟨_, _ | ⟨_, _ | ⟨_, l⟩⟩⟩⟩⟩⟩⟩⟩ <;> simp [pow256] at hl ⊢
  omega
theorem take_snoc {α : Type} (l : List α) (j : Nat) (hj : j < l.length) (d : α) : l.take (j + 1) = l.take j ++ [l[j]?.getD d] := by
  rw [List.take_succ_eq_append_getElem hj]; simp [hj]

theorem cells_of_rd {w : World} {A : Option Addr} {n k : Nat} {xs : List Int} (h : Rd w .u8 A n xs) (hk : k ≤ n) (g off : Nat) (dp : Option Addr) (hd : 0 < k → dp = some ⟨g, off, none⟩) :
    0 < ((xs.take k).map (Value.int .u8)).length → dp = some ⟨g, off, none⟩ ∧ ∃ ad, A = some ad ∧ ∀ j v, ((xs.take k).map (Value.int .u8))[j]? = some v → w.cell? (ad.add j) = some v := by
  intro hp
  have hl := h.len
  have hp' : 0 < k := by simp at hp; omega
  obtain ⟨b, o, e, _, hc⟩ := h.row (by omega)
  refine ⟨hd hp', _, e, fun j v hv => ?_⟩
  have ha : (⟨b, o, none⟩ : Addr).add j = ⟨b, o + j, none⟩ := by unfold Addr.add; split <;> simp_all
  have hj : j < k := by
    rcases Nat.lt_or_ge j k with h | h
    · exact h
    · rw [List.getElem?_eq_none (by simp; omega)] at hv; cases hv
  rw [ha, hc j (by omega)]
  simpa [List.getElem?_take, hj, show j < xs.length by omega] using hv
theorem one_u8 (xs : List Int) : ∀ v ∈ xs.map (Value.int .u8), v.oneCell' = true := by
  intro v hv
  obtain ⟨x, _, rfl⟩ := List.mem_map.1 hv
  rfl
end Go.Proofs.Ytadpgodmkodgdaa

namespace Go.Proofs.Ytadpgodmkodgdaa
open Go.RowKit
set_option linter.unusedSimpArgs false
set_option linter.unusedVariables false

set_option maxRecDepth 100000 in
set_option maxHeartbeats 1000000 in
theorem get_any (A0 : Option Addr) (n0 c0 : Nat) (bs : List Int) (k : Int) (w : World) (r0 : Rd w .u8 A0 n0 bs) (l0 : n0 ≤ c0) :
    Calls Try.prog 38 #[.slice A0 n0 c0, .int .i64 k] w fun e w' => e = .returned (.tuple #[.int .u64 (getN bs n0 k), .int .i64 (getE n0 k)]) ∧ Below w.heap.size w w' := by
  have hbig := r0.big
  by_cases k0 : k < 0
  · have e1 : getE n0 k = 1 := by unfold getE; rw [if_pos (.inl k0)]
    have e2 : getN bs n0 k = 0 := by unfold getN; rw [e1]; rfl
    rw [e1, e2]
    clear e1 e2
    go_enter Try.func38, Try.ntmps38
    go_wp2
    go_ret2
    exact ⟨rfl, Below.refl _ _⟩
  by_cases k8 : 8 < k
  · have e1 : getE n0 k = 1 := by unfold getE; rw [if_pos (.inr k8)]
    have e2 : getN bs n0 k = 0 := by unfold getN; rw [e1]; rfl
    rw [e1, e2]
    clear e1 e2
    go_enter Try.func38, Try.ntmps38
    go_wp2
    go_ret2
    exact ⟨rfl, Below.refl _ _⟩
  obtain ⟨m, rfl⟩ := Int.eq_ofNat_of_zero_le (show 0 ≤ k by omega)
  by_cases ks : n0 < m
  · have e1 : getE n0 (m : Int) = 5 := by unfold getE; rw [if_neg (by omega), if_pos (by omega)]
    have e2 : getN bs n0 (m : Int) = 0 := by unfold getN; rw [e1]; rfl
    rw [e1, e2]
    clear e1 e2
    go_enter Try.func38, Try.ntmps38
    go_wp2
    go_ret2
    exact ⟨rfl, Below.refl _ _⟩
  · have e1 : getE n0 (m : Int) = 0 := by unfold getE; rw [if_neg (by omega), if_neg (by omega)]
    have e2 : getN bs n0 (m : Int) = told (bs.take m) := by unfold getN; rw [e1]; simp
    rw [e1, e2]
    clear e1 e2
    have hm8 : m ≤ 8 := by omega
    have hB1 : Below w.heap.size w (w.alloc (.cells ((List.replicate 8 (0 : Int)).map (Value.int .u8)).toArray 104)) := (Below.refl _ _).alloc (Nat.le_refl _) _
    have hk1 : Blk (w.alloc (.cells ((List.replicate 8 (0 : Int)).map (Value.int .u8)).toArray 104)) w.heap.size 104 ((List.replicate 8 (0 : Int)).map (Value.int .u8)) := Blk.new _ _ _
    have r1 := r0.below hB1
    obtain ⟨dp, hdp⟩ : ∃ dp : Addr, dp = if m = 0 then ⟨w.heap.size, 0, none⟩ else ⟨w.heap.size, 8 - m, none⟩ := ⟨_, rfl⟩
    have hsl : ∀ W : World, (Instr.sliceAt 104 (.pointer (some ⟨w.heap.size, 0, none⟩)) (some (.int .i64 (8 - (m : Int)))) none none).run Try.prog W = .ok (.slice (some dp) m m) W := fun W => by
      have h8 : Try.prog.arrayLen 104 = 8 := by kernel_rfl
      have hrun := run_sliceAt_array_l (P := Try.prog) W 104 ⟨w.heap.size, 0, none⟩ (by kernel_rfl) .i64 (8 - (m : Int)) (by omega) (by rw [h8]; omega)
      rw [hrun, show (sizeOf (Try.prog.elem 104)).run Try.prog W = .ok 1 W from by kernel_rfl]
      simp only [Result.andThen, slicedAt, h8]
      rw [show (8 - (m : Int)).toNat = 8 - m by omega, hdp]
      by_cases hm : m = 0
      · subst hm; simp
      · rw [if_neg (by omega), if_neg hm, show 8 - (8 - m) = m by omega, Nat.mul_one]
        have ha : (⟨w.heap.size, 0, none⟩ : Addr).add (8 - m) = ⟨w.heap.size, 8 - m, none⟩ := by unfold Addr.add; split <;> simp_all
        rw [ha]
    have hpos := cells_of_rd r1 (k := m) (by omega) w.heap.size (8 - m) (some dp) (fun h => by rw [hdp, if_neg (by omega)])
    have hcl : ((bs.take m).map (Value.int .u8)).length = Nat.min n0 m := by simp [r0.len, Nat.min_comm]
    have hfit : 8 - m + ((bs.take m).map (Value.int .u8)).length ≤ ((List.replicate 8 (0 : Int)).map (Value.int .u8)).length := by simp [r0.len]; omega
    have hspl : splice ((List.replicate 8 (0 : Int)).map (Value.int .u8)) (8 - m) ((bs.take m).map (Value.int .u8)) = (List.replicate (8 - m) 0 ++ bs.take m).map (Value.int .u8) := by
      have hl := r0.len
      rw [splice, List.length_map, List.length_take, List.drop_eq_nil_of_le (by simp; omega), ← List.map_take, List.take_replicate, Nat.min_eq_left (show 8 - m ≤ 8 by omega)]
      simp
    have htold : told (List.replicate (8 - m) 0 ++ bs.take m) = told (bs.take m) := told_zeros _ _
    have hbytes : ∀ x ∈ List.replicate (8 - m) 0 ++ bs.take m, 0 ≤ x ∧ x ≤ 255 := by
      intro x hx
      rcases List.mem_append.1 hx with h | h
      · have := List.eq_of_mem_replicate h; omega
      · exact rd_bytes r0 x (List.mem_of_mem_take h)
    have hclen : (List.replicate (8 - m) 0 ++ bs.take m).length = 8 := by have := r0.len; simp; omega
    generalize List.replicate (8 - m) 0 ++ bs.take m = cells at *
    obtain ⟨off, hoff⟩ : ∃ off, 8 - m = off := ⟨_, rfl⟩
    rw [hoff] at hpos hfit hspl
    have HP := Lib.hid hpos
    have HC := Lib.hid hcl
    have HF := Lib.hid hfit
    have HS := Lib.hid hspl
    have HT := Lib.hid htold
    have HBY := Lib.hid hbytes
    have HCL := Lib.hid hclen
    have HB := Lib.hid hB1
    have HK := Lib.hid hk1
    clear hpos hcl hfit hspl htold hbytes hclen hB1 hk1 r1 hdp hoff
    go_enter Try.func38, Try.ntmps38
    go_wp2_with (first
      | (refine wpList_value (o := ⟨some 6, .alloc 104, _, _, _, _⟩) (v := .pointer (some ⟨w.heap.size, 0, none⟩)) (w' := w.alloc (.cells ((List.replicate 8 (0 : Int)).map (Value.int .u8)).toArray 104)) rfl (by kernel_rfl) ?_)
      | (refine wpList_copy (o := ⟨some 22, _, _, _, _, _⟩) rfl _ _ _ _ rfl 5 Try.underlying49 size_u8 (some dp) A0 m m n0 c0 rfl rfl w.heap.size off _ 104 HK.out ((bs.take m).map (Value.int .u8)) HC.out HP.out HF.out (one_u8 _) ?_
         intro w6 hb6 hk6))
    have hB6 := below_keeps HB.out hk6 (Nat.le_refl _) (fun i hi => by subst hi; exact Nat.le_refl _)
    have hb7 := hb6.out
    rw [HS.out] at hb7
    have HB7 := Lib.hid hb7
    clear hb6 hb7
    go_loop [4, 23] (fun n i => ∃ j : Nat, j ≤ 8 ∧ i = .int .i64 j ∧ n = .int .u64 (told (cells.take j))) (fun _ i => 8 - (intOf i).toNat)
    case atStart => exact ⟨0, by omega, rfl, by simp [told]⟩
    case round =>
      obtain ⟨j, hj, rfl, rfl⟩ := hrel
      by_cases hlt : j < 8
      · have hcell := HB7.out.int_at j (by rw [HCL.out]; exact hlt)
        have hts := take_snoc cells j (by rw [HCL.out]; exact hlt) 0
        have hb := told8 (cells.take j) (fun x hx => HBY.out x (List.mem_of_mem_take hx)) (by simp [HCL.out]; omega)
        have hx := HBY.out (cells[j]?.getD 0) (by rw [List.getElem?_eq_getElem (by rw [HCL.out]; exact hlt)]; exact List.getElem_mem _)
        generalize cells[j]?.getD 0 = x at *
        have hsn : told (cells.take (j + 1)) = 256 * told (cells.take j) + x := by rw [hts, told_snoc]
        generalize told (cells.take j) = tj at *
        have HSN := Lib.hid hsn
        clear hsn hts
        obtain ⟨hb0, hb1⟩ := hb
        obtain ⟨hx0, hx1⟩ := hx
        go_wp2
        go_round
        case rel => exact ⟨j + 1, by omega, by go_num, by rw [HSN.out]⟩
        case measure => simp [intOf]; omega
      · obtain rfl : j = 8 := by omega
        go_wp2
        go_ret2
        refine ⟨?_, hB6⟩
        have h9 : told (cells.take 8) = told (bs.take m) := by rw [← HT.out, List.take_of_length_le (by rw [HCL.out]; exact Nat.le_refl _)]
        rw [← h9]
        rfl
end Go.Proofs.Ytadpgodmkodgdaa
