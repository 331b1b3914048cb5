/- The walks over nums.Get; The walk over params.sum: 32 bytes as a sum. -/
import Derived.Test.YtgecfcdafbedaaaGreatZRParamsBodies12
import Derived.Test.YtgecfcdafbedaaaGreatZRParamsBodies17
import Derived.Deep.CutRange
namespace Go.Proofs.YtgecfcdafbedaaaGreat
open Go.RowKit
set_option linter.unusedSimpArgs false
set_option linter.unusedVariables false

set_option maxRecDepth 100000 in
set_option maxHeartbeats 1000000 in
theorem get_any (A0 : Option Addr) (n0 c0 : Nat) (bs : List Int) (k : Int) (w : World) (r0 : Rd w .u8 A0 n0 bs) (l0 : n0 ≤ c0) :
    Calls Tryz.prog 72 #[.slice A0 n0 c0, .int .i64 k] w fun e w' => e = .returned (.tuple #[.int .u64 (getN bs n0 k), .int .i64 (getE n0 k)]) ∧ Below w.heap.size w w' := by
  have hbig := r0.big
  by_cases k0 : k < 0
  · have e1 : getE n0 k = 1 := by unfold getE; rw [if_pos (.inl k0)]
    have e2 : getN bs n0 k = 0 := by unfold getN; rw [e1]; rfl
    rw [e1, e2]
    clear e1 e2
    go_enter Tryz.func72, Tryz.ntmps72
    go_wp2
    go_ret2
    exact ⟨rfl, Below.refl _ _⟩
  by_cases k8 : 8 < k
  · have e1 : getE n0 k = 1 := by unfold getE; rw [if_pos (.inr k8)]
    have e2 : getN bs n0 k = 0 := by unfold getN; rw [e1]; rfl
    rw [e1, e2]
    clear e1 e2
    go_enter Tryz.func72, Tryz.ntmps72
    go_wp2
    go_ret2
    exact ⟨rfl, Below.refl _ _⟩
  obtain ⟨m, rfl⟩ := Int.eq_ofNat_of_zero_le (show 0 ≤ k by omega)
  by_cases ks : n0 < m
  · have e1 : getE n0 (m : Int) = 5 := by unfold getE; rw [if_neg (by omega), if_pos (by omega)]
    have e2 : getN bs n0 (m : Int) = 0 := by unfold getN; rw [e1]; rfl
    rw [e1, e2]
    clear e1 e2
    go_enter Tryz.func72, Tryz.ntmps72
    go_wp2
    go_ret2
    exact ⟨rfl, Below.refl _ _⟩
  · have e1 : getE n0 (m : Int) = 0 := by unfold getE; rw [if_neg (by omega), if_neg (by omega)]
    have e2 : getN bs n0 (m : Int) = told (bs.take m) := by unfold getN; rw [e1]; simp
    rw [e1, e2]
    clear e1 e2
    have hm8 : m ≤ 8 := by omega
    have hB1 : Below w.heap.size w (w.alloc (.cells ((List.replicate 8 (0 : Int)).map (Value.int .u8)).toArray 116)) := (Below.refl _ _).alloc (Nat.le_refl _) _
    have hk1 : Blk (w.alloc (.cells ((List.replicate 8 (0 : Int)).map (Value.int .u8)).toArray 116)) w.heap.size 116 ((List.replicate 8 (0 : Int)).map (Value.int .u8)) := Blk.new _ _ _
    have r1 := r0.below hB1
    obtain ⟨dp, hdp⟩ : ∃ dp : Addr, dp = if m = 0 then ⟨w.heap.size, 0, none⟩ else ⟨w.heap.size, 8 - m, none⟩ := ⟨_, rfl⟩
    have hsl : ∀ W : World, (Instr.sliceAt 116 (.pointer (some ⟨w.heap.size, 0, none⟩)) (some (.int .i64 (8 - (m : Int)))) none none).run Tryz.prog W = .ok (.slice (some dp) m m) W := fun W => by
      have h8 : Tryz.prog.arrayLen 116 = 8 := by kernel_rfl
      have hrun := run_sliceAt_array_l (P := Tryz.prog) W 116 ⟨w.heap.size, 0, none⟩ (by kernel_rfl) .i64 (8 - (m : Int)) (by omega) (by rw [h8]; omega)
      rw [hrun, show (sizeOf (Tryz.prog.elem 116)).run Tryz.prog W = .ok 1 W from by kernel_rfl]
      simp only [Result.andThen, slicedAt, h8]
      rw [show (8 - (m : Int)).toNat = 8 - m by omega, hdp]
      by_cases hm : m = 0
      · subst hm; simp
      · rw [if_neg (by omega), if_neg hm, show 8 - (8 - m) = m by omega, Nat.mul_one]
        have ha : (⟨w.heap.size, 0, none⟩ : Addr).add (8 - m) = ⟨w.heap.size, 8 - m, none⟩ := by unfold Addr.add; split <;> simp_all
        rw [ha]
    have hpos := cells_of_rd r1 (k := m) (by omega) w.heap.size (8 - m) (some dp) (fun h => by rw [hdp, if_neg (by omega)])
    have hcl : ((bs.take m).map (Value.int .u8)).length = Nat.min n0 m := by simp [r0.len, Nat.min_comm]
    have hfit : 8 - m + ((bs.take m).map (Value.int .u8)).length ≤ ((List.replicate 8 (0 : Int)).map (Value.int .u8)).length := by simp [r0.len]; omega
    have hspl : splice ((List.replicate 8 (0 : Int)).map (Value.int .u8)) (8 - m) ((bs.take m).map (Value.int .u8)) = (List.replicate (8 - m) 0 ++ bs.take m).map (Value.int .u8) := by
      have hl := r0.len
      rw [splice, List.length_map, List.length_take, List.drop_eq_nil_of_le (by simp; omega), ← List.map_take, List.take_replicate, Nat.min_eq_left (show 8 - m ≤ 8 by omega)]
      simp
    have htold : told (List.replicate (8 - m) 0 ++ bs.take m) = told (bs.take m) := told_zeros _ _
    have hbytes : ∀ x ∈ List.replicate (8 - m) 0 ++ bs.take m, 0 ≤ x ∧ x ≤ 255 := by
      intro x hx
      rcases List.mem_append.1 hx with h | h
      · have := List.eq_of_mem_replicate h; omega
      · exact rd_bytes r0 x (List.mem_of_mem_take h)
    have hclen : (List.replicate (8 - m) 0 ++ bs.take m).length = 8 := by have := r0.len; simp; omega
    generalize List.replicate (8 - m) 0 ++ bs.take m = cells at *
    obtain ⟨off, hoff⟩ : ∃ off, 8 - m = off := ⟨_, rfl⟩
    rw [hoff] at hpos hfit hspl
    have HP := Lib.hid hpos
    have HC := Lib.hid hcl
    have HF := Lib.hid hfit
    have HS := Lib.hid hspl
    have HT := Lib.hid htold
    have HBY := Lib.hid hbytes
    have HCL := Lib.hid hclen
    have HB := Lib.hid hB1
    have HK := Lib.hid hk1
    clear hpos hcl hfit hspl htold hbytes hclen hB1 hk1 r1 hdp hoff
    go_enter Tryz.func72, Tryz.ntmps72
    go_wp2_with (first
      | (refine wpList_value (o := ⟨some 6, .alloc 116, _, _, _, _⟩) (v := .pointer (some ⟨w.heap.size, 0, none⟩)) (w' := w.alloc (.cells ((List.replicate 8 (0 : Int)).map (Value.int .u8)).toArray 116)) rfl (by kernel_rfl) ?_)
      | (refine wpList_copy (o := ⟨some 22, _, _, _, _, _⟩) rfl _ _ _ _ rfl 5 Tryz.underlying22 size_u8 (some dp) A0 m m n0 c0 rfl rfl w.heap.size off _ 116 HK.out ((bs.take m).map (Value.int .u8)) HC.out HP.out HF.out (one_u8 _) ?_
         intro w6 hb6 hk6))
    have hB6 := below_keeps HB.out hk6 (Nat.le_refl _) (fun i hi => by subst hi; exact Nat.le_refl _)
    have hb7 := hb6.out
    rw [HS.out] at hb7
    have HB7 := Lib.hid hb7
    clear hb6 hb7
    go_loop [4, 23] (fun n i => ∃ j : Nat, j ≤ 8 ∧ i = .int .i64 j ∧ n = .int .u64 (told (cells.take j))) (fun _ i => 8 - (intOf i).toNat)
    case atStart => exact ⟨0, by omega, rfl, by simp [told]⟩
    case round =>
      obtain ⟨j, hj, rfl, rfl⟩ := hrel
      by_cases hlt : j < 8
      · have hcell := HB7.out.int_at j (by rw [HCL.out]; exact hlt)
        have hts := take_snoc cells j (by rw [HCL.out]; exact hlt) 0
        have hb := told8 (cells.take j) (fun x hx => HBY.out x (List.mem_of_mem_take hx)) (by simp [HCL.out]; omega)
        have hx := HBY.out (cells[j]?.getD 0) (by rw [List.getElem?_eq_getElem (by rw [HCL.out]; exact hlt)]; exact List.getElem_mem _)
        generalize cells[j]?.getD 0 = x at *
        have hsn : told (cells.take (j + 1)) = 256 * told (cells.take j) + x := by rw [hts, told_snoc]
        generalize told (cells.take j) = tj at *
        have HSN := Lib.hid hsn
        clear hsn hts
        obtain ⟨hb0, hb1⟩ := hb
        obtain ⟨hx0, hx1⟩ := hx
        go_wp2
        go_round
        case rel => exact ⟨j + 1, by omega, by go_num, by rw [HSN.out]⟩
        case measure => simp [intOf]; omega
      · obtain rfl : j = 8 := by omega
        go_wp2
        go_ret2
        refine ⟨?_, hB6⟩
        have h9 : told (cells.take 8) = told (bs.take m) := by rw [← HT.out, List.take_of_length_le (by rw [HCL.out]; exact Nat.le_refl _)]
        rw [← h9]
        rfl
end Go.Proofs.YtgecfcdafbedaaaGreat

namespace Go.Proofs.YtgecfcdafbedaaaGreat
open Go.RowKit
set_option linter.unusedSimpArgs false
set_option linter.unusedVariables false

def zSum : List Value := (List.replicate 32 (0 : Int)).map (Value.int .u8)
theorem alloc_sum (W : World) (o : Oper) (ho : o.op = .alloc 27) (ev : Operand → Value) : (execOp ev o).run Tryz.prog W = .ok (.value (.pointer (some ⟨W.heap.size, 0, none⟩))) (W.alloc (.cells zSum.toArray 27)) := by
  obtain ⟨d, op, t, p, af, g⟩ := o
  simp only at ho
  subst ho
  kernel_rfl
theorem slice_sum (S : Nat) (W : World) : (Instr.sliceAt 27 (.pointer (some ⟨S, 0, none⟩)) none none none).run Tryz.prog W = .ok (.slice (some ⟨S, 0, none⟩) 32 32) W := by kernel_rfl
theorem size_sum : (Tryz.prog.info? 27).map (·.size) = some 32 := by kernel_rfl
theorem one_ints {k : IntKind} {xs : List Int} : ∀ v ∈ xs.map (Value.int k), v.oneCell' = true := by
  intro v hv
  rw [List.mem_map] at hv
  obtain ⟨x, _, rfl⟩ := hv
  rfl
set_option maxRecDepth 100000 in
set_option maxHeartbeats 2000000 in
theorem sum_any (A : Option Addr) (c : Nat) (bs : List Int) (w : World) (r : Rd w .u8 A 32 bs) :
    Calls Tryz.prog 52 #[.slice A 32 c] w fun e w' => e = .returned (.agg (bs.map (Value.int .u8)).toArray) ∧ Below w.heap.size w w' := by
  obtain ⟨b, off, rfl, hb, hc⟩ := r.row (by omega)
  have HR := Lib.hid r
  have HBL := Lib.hid hb
  have HC := Lib.hid hc
  obtain ⟨S, hS⟩ : ∃ S, w.heap.size = S := ⟨_, rfl⟩
  have HS := Lib.hid hS
  have HSL := Lib.hid (slice_sum S)
  obtain ⟨B, hBB⟩ : ∃ B, bs.map (Value.int .u8) = B := ⟨_, rfl⟩
  have hl : B.length = 32 := by rw [← hBB, List.length_map, r.len]
  have h1 : ∀ v ∈ B, v.oneCell' = true := by rw [← hBB]; exact one_ints
  have hcc : ∀ w1, Below w.heap.size w w1 → ∀ j v, B[j]? = some v → w1.cell? ((⟨b, off, none⟩ : Addr).add j) = some v := fun w1 hB j v hv => by
    have hj : j < 32 := by rw [← hl]; exact (List.getElem?_eq_some_iff.1 hv).1
    have h2 := hc j hj
    rw [← hBB, List.getElem?_map, List.getElem?_eq_getElem (by rw [r.len]; exact hj)] at hv
    rw [List.getElem?_eq_getElem (by rw [r.len]; exact hj)] at h2
    simp only [Option.map_some, Option.some.injEq] at hv
    rw [← hv]
    rw [Option.getD_some] at h2
    have h3 := (hB.cell (p := ⟨b, off + j, none⟩) hb).trans h2
    have e : (⟨b, off, none⟩ : Addr).add j = ⟨b, off + j, none⟩ := by unfold Addr.add; split <;> simp_all
    rw [e]; exact h3
  have HL := Lib.hid hl
  have H1 := Lib.hid h1
  have HCC := Lib.hid hcc
  have HSZ := Lib.hid size_sum
  have hsz : (Tryz.prog.info? 27).map (·.size) = some B.length := by rw [hl]; exact size_sum
  have HSZ := Lib.hid hsz
  rw [hBB]
  clear r hb hc hS hBB hl h1 hcc hsz
  go_enter Tryz.func52, Tryz.ntmps52
  go_upto_region 2 with (first
    | (refine wpList_allocT (o := ⟨some 2, .alloc 27, _, _, _, _⟩) rfl 27 zSum (fun W => alloc_sum W _ rfl _) ?_; intro w1 HK1 HB1; rw [HS.out])
    | (refine wpList_value (o := ⟨some 3, .slice 27 _ _ _ _, _, _, _, _⟩) (v := .slice (some ⟨S, 0, none⟩) 32 32) (w' := w1) rfl (exec_sliceB rfl (HSL.out w1)) ?_)
    | (refine wpList_copy (o := ⟨some 5, _, _, _, _, _⟩) rfl _ _ _ _ rfl 5 Tryz.underlying22 size_u8 (some ⟨S, 0, none⟩) (some ⟨b, off, none⟩) 32 32 32 c rfl rfl S 0 zSum 27 (by rw [← HS.out]; exact HK1.out) B (by rw [HL.out]; rfl)
        (fun _ => ⟨rfl, _, rfl, HCC.out w1 HB1.out⟩) (by rw [HL.out]; decide) H1.out ?_; intro w2 HK2a hk2; have HK2 : Hid (Blk w2 S 27 B) := Lib.hid (by have := HK2a.out; rwa [splice_whole _ _ (by rw [HL.out]; rfl)] at this); have HB2 := Lib.hid (below_keeps HB1.out hk2 (Nat.le_refl _) (fun i hi => by rw [hi, HS.out]; exact Nat.le_refl _)); clear hk2 HK2a))
  refine wp_region_lit ?_
  refine wpList_loadT (o := ⟨some 6, .load 27 _, _, _, _, _⟩) rfl 27 _ rfl S rfl 27 B _ HK2.out Tryz.underlying27 rfl HSZ.out ?_
  refine wpList_over (o := ⟨none, .store 27 _ _, _, _, _, _⟩) rfl 27 _ _ rfl S B B 27 rfl rfl HK2.out rfl HSZ.out H1.out ?_; intro w3 HK3 hk3
  have HB3 := Lib.hid (below_keeps HB2.out hk3.out (Nat.le_refl _) (fun i hi => by rw [hi, HS.out]; exact Nat.le_refl _))
  clear hk3
  go_wp2_with fail
  refine bodyPost_ret (results_rowT rfl _ S _ _ _ rfl HK3.out Tryz.underlying27 rfl HSZ.out) rfl ?_
  exact ⟨rfl, HB3.out⟩
end Go.Proofs.YtgecfcdafbedaaaGreat
