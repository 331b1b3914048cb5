/- burrowlaw21's own examples hold. (Printed by wip/mksal.py.) -/
import Derived.Test.YtnnbjcnfekgngaaSWrap
namespace Go.Proofs.Ytnnbjcnfekgngaa
open Go.RowKit
set_option linter.unusedSimpArgs false
set_option linter.unusedVariables false

set_option maxRecDepth 100000 in
set_option maxHeartbeats 16000000 in
theorem aliveS_true (w : World) : Calls Try.prog 5 #[] w fun e w' => e = .returned (.bool true) ∧ Below w.heap.size w w' := by
  go_enter Try.func5, Try.ntmps5
  go_wp2_with fail
  refine (new_any 5 w (by omega)).mono ?_; rintro e w0 ⟨p, g, rfl, hp, hg, hS, hB⟩
  have HpB := Lib.hid hp
  have HgB := Lib.hid hg
  have HS0 := Lib.hid hS
  have HB0 := Lib.hid hB
  clear hp hg hS hB
  go_wp2_with fail
  refine (best_at HS0.out 5 true rfl).mono ?_; rintro e w1 ⟨rfl, hS, hB⟩
  have HS1 := Lib.hid hS
  clear hS
  have HB1 := Lib.hid (HB0.out.trans (hB.mono HB0.out.size))
  clear hB
  clear HB0 HS0
  go_wp2_with fail
  have hB0 := new_belowS w1 (.cells #[.int .u32 6, .int .u32 5] 23)
  have hr : Rd (w1.alloc (.cells #[.int .u32 6, .int .u32 5] 23)) .u32 (some ⟨w1.heap.size, 0, none⟩) 2 [6, 5] := rd_spots (w := w1) (xs := [6, 5]) rfl (by decide) (by decide)
  refine (change_ok (HS1.out.below hB0) _ 2 2 [6, 5] hr (by omega) (spok2 (by decide) (by decide) (by decide)) [⟨6, 1, none⟩, ⟨5, 2, none⟩] [6] 1 rfl rfl rfl).mono ?_; rintro e w2 ⟨A, G1, rfl, hl, hG, hS, hK⟩
  have HG1B := Lib.hid (Nat.le_trans (HB1.out.trans (hB0.mono HB1.out.size)).size hG)
  obtain ⟨N1, cN1, rfl, hN1B, hkN1, hcN1⟩ := hl.one
  have HN1_2 := Lib.hid hkN1
  have HCN1 := Lib.hid hcN1
  have HS2 := Lib.hid hS
  have HN1p := Lib.hid (blk_ne hkN1 hS.set (by decide))
  have HB2 := Lib.hid (below_keeps (HB1.out.trans (hB0.mono HB1.out.size)) hK (Nat.le_refl _) (fun i hi => by rw [hi]; exact HpB.out))
  clear hl hG hS hK hB0 hr hN1B hkN1 hcN1 HB1 HS1
  have HN1G1 := Lib.hid (blk_ne HN1_2.out HS2.out.row (by decide))
  go_wp2_with fail
  refine (state_at HS2.out 6 1 rfl).mono ?_; rintro e w3 ⟨rfl, hS, hB⟩
  have HS3 := Lib.hid hS
  clear hS
  have HB3 := Lib.hid (HB2.out.trans (hB.mono HB2.out.size))
  have HN1_3 := Lib.hid (HN1_2.out.below hB HN1_2.out.lt)
  clear hB
  clear HB2 HN1_2 HS2
  go_wp2_with fail
  have hB0 := new_belowS w3 (.cells #[.int .u32 6, .int .u32 7] 23)
  have hr : Rd (w3.alloc (.cells #[.int .u32 6, .int .u32 7] 23)) .u32 (some ⟨w3.heap.size, 0, none⟩) 2 [6, 7] := rd_spots (w := w3) (xs := [6, 7]) rfl (by decide) (by decide)
  refine (change_ok (HS3.out.below hB0) _ 2 2 [6, 7] hr (by omega) (spok2 (by decide) (by decide) (by decide)) [⟨6, 1, none⟩, ⟨7, 1, none⟩] [7] 1 rfl rfl rfl).mono ?_; rintro e w4 ⟨A, G2, rfl, hl, hG, hS, hK⟩
  have HG2B := Lib.hid (Nat.le_trans (HB3.out.trans (hB0.mono HB3.out.size)).size hG)
  obtain ⟨N2, cN2, rfl, hN2B, hkN2, hcN2⟩ := hl.one
  have HN2_4 := Lib.hid hkN2
  have HCN2 := Lib.hid hcN2
  have HS4 := Lib.hid hS
  have HN2p := Lib.hid (blk_ne hkN2 hS.set (by decide))
  have HB4 := Lib.hid (below_keeps (HB3.out.trans (hB0.mono HB3.out.size)) hK (Nat.le_refl _) (fun i hi => by rw [hi]; exact HpB.out))
  have HN1_4 := Lib.hid ((HN1_3.out.below hB0 HN1_3.out.lt).keep hK (fun h => HN1p.out h))
  clear hl hG hS hK hB0 hr hN2B hkN2 hcN2 HB3 HS3 HN1_3
  have HN1G2 := Lib.hid (blk_ne HN1_4.out HS4.out.row (by decide))
  have HN2G2 := Lib.hid (blk_ne HN2_4.out HS4.out.row (by decide))
  go_wp2_with fail
  refine (best_at HS4.out 6 false rfl).mono ?_; rintro e w5 ⟨rfl, hS, hB⟩
  have HS5 := Lib.hid hS
  clear hS
  have HB5 := Lib.hid (HB4.out.trans (hB.mono HB4.out.size))
  have HN1_5 := Lib.hid (HN1_4.out.below hB HN1_4.out.lt)
  have HN2_5 := Lib.hid (HN2_4.out.below hB HN2_4.out.lt)
  clear hB
  clear HB4 HN1_4 HN2_4 HS4
  go_wp2_with fail
  refine (spend_at HS5.out 1 6 0 (by omega) rfl rfl).mono ?_; rintro e w6 ⟨rfl, hS, hK⟩
  have HS6 := Lib.hid hS
  clear hS
  have HB6 := Lib.hid (below_keeps HB5.out hK (Nat.le_refl _) (fun i hi => by rw [hi]; exact HpB.out))
  have HN1_6 := Lib.hid (HN1_5.out.keep hK (fun h => HN1p.out h))
  have HN2_6 := Lib.hid (HN2_5.out.keep hK (fun h => HN2p.out h))
  clear hK
  clear HB5 HN1_5 HN2_5 HS5
  go_wp2_with fail
  refine (came_at HS6.out 10 10 (by omega) rfl).mono ?_; rintro e w7 ⟨rfl, hS, hK⟩
  have HS7 := Lib.hid hS
  clear hS
  have HB7 := Lib.hid (below_keeps HB6.out hK (Nat.le_refl _) (fun i hi => by rw [hi]; exact HpB.out))
  have HN1_7 := Lib.hid (HN1_6.out.keep hK (fun h => HN1p.out h))
  have HN2_7 := Lib.hid (HN2_6.out.keep hK (fun h => HN2p.out h))
  clear hK
  clear HB6 HN1_6 HN2_6 HS6
  go_wp2_with fail
  refine (spend_at HS7.out 10 0 0 (by omega) rfl rfl).mono ?_; rintro e w8 ⟨rfl, hS, hK⟩
  have HS8 := Lib.hid hS
  clear hS
  have HB8 := Lib.hid (below_keeps HB7.out hK (Nat.le_refl _) (fun i hi => by rw [hi]; exact HpB.out))
  have HN1_8 := Lib.hid (HN1_7.out.keep hK (fun h => HN1p.out h))
  have HN2_8 := Lib.hid (HN2_7.out.keep hK (fun h => HN2p.out h))
  clear hK
  clear HB7 HN1_7 HN2_7 HS7
  go_wp2_with fail
  refine (spend_at HS8.out 1 6 0 (by omega) rfl rfl).mono ?_; rintro e w9 ⟨rfl, hS, hK⟩
  have HS9 := Lib.hid hS
  clear hS
  have HB9 := Lib.hid (below_keeps HB8.out hK (Nat.le_refl _) (fun i hi => by rw [hi]; exact HpB.out))
  have HN1_9 := Lib.hid (HN1_8.out.keep hK (fun h => HN1p.out h))
  have HN2_9 := Lib.hid (HN2_8.out.keep hK (fun h => HN2p.out h))
  clear hK
  clear HB8 HN1_8 HN2_8 HS8
  go_wp2_with fail
  refine (ask_at HS9.out 6 (1 :: List.replicate 31 0) rfl 0 rfl (fun X => [⟨6, 1, some (X, (1 :: List.replicate 31 0))⟩, ⟨7, 1, none⟩]) (fun X => rfl)).mono ?_; rintro e w10 ⟨X1, rfl, hS, hK⟩
  have HS10 := Lib.hid hS
  clear hS
  have HB10 := Lib.hid (below_keeps HB9.out hK (Nat.le_refl _) (fun i hi => by rw [hi]; exact HG2B.out))
  have HN1_10 := Lib.hid (HN1_9.out.keep hK (fun h => HN1G2.out h))
  have HN2_10 := Lib.hid (HN2_9.out.keep hK (fun h => HN2G2.out h))
  clear hK
  clear HB9 HN1_9 HN2_9 HS9
  go_wp2_with fail
  refine (ask_at HS10.out 7 (2 :: List.replicate 31 0) rfl 0 rfl (fun X => [⟨6, 1, some (X1, (1 :: List.replicate 31 0))⟩, ⟨7, 1, some (X, (2 :: List.replicate 31 0))⟩]) (fun X => rfl)).mono ?_; rintro e w11 ⟨X2, rfl, hS, hK⟩
  have HS11 := Lib.hid hS
  clear hS
  have HB11 := Lib.hid (below_keeps HB10.out hK (Nat.le_refl _) (fun i hi => by rw [hi]; exact HG2B.out))
  have HN1_11 := Lib.hid (HN1_10.out.keep hK (fun h => HN1G2.out h))
  have HN2_11 := Lib.hid (HN2_10.out.keep hK (fun h => HN2G2.out h))
  clear hK
  clear HB10 HN1_10 HN2_10 HS10
  go_wp2_with fail
  refine (back_at HS11.out (3 :: List.replicate 31 0) rfl 0 7 rfl [⟨6, 1, some (X1, (1 :: List.replicate 31 0))⟩, ⟨7, 1, some (X2, (2 :: List.replicate 31 0))⟩] rfl).mono ?_; rintro e w12 ⟨rfl, hS, hK⟩
  have HS12 := Lib.hid hS
  clear hS
  have HB12 := Lib.hid (below_keeps HB11.out hK (Nat.le_refl _) (fun i hi => by rw [hi]; exact HG2B.out))
  have HN1_12 := Lib.hid (HN1_11.out.keep hK (fun h => HN1G2.out h))
  have HN2_12 := Lib.hid (HN2_11.out.keep hK (fun h => HN2G2.out h))
  clear hK
  clear HB11 HN1_11 HN2_11 HS11
  go_wp2_with fail
  refine (back_at HS12.out (2 :: List.replicate 31 0) rfl 7 0 rfl [⟨6, 1, some (X1, (1 :: List.replicate 31 0))⟩, ⟨7, 2, some (X2, (2 :: List.replicate 31 0))⟩] rfl).mono ?_; rintro e w13 ⟨rfl, hS, hK⟩
  have HS13 := Lib.hid hS
  clear hS
  have HB13 := Lib.hid (below_keeps HB12.out hK (Nat.le_refl _) (fun i hi => by rw [hi]; exact HG2B.out))
  have HN1_13 := Lib.hid (HN1_12.out.keep hK (fun h => HN1G2.out h))
  have HN2_13 := Lib.hid (HN2_12.out.keep hK (fun h => HN2G2.out h))
  clear hK
  clear HB12 HN1_12 HN2_12 HS12
  go_wp2_with fail
  refine (best_at HS13.out 7 true rfl).mono ?_; rintro e w14 ⟨rfl, hS, hB⟩
  have HS14 := Lib.hid hS
  clear hS
  have HB14 := Lib.hid (HB13.out.trans (hB.mono HB13.out.size))
  have HN1_14 := Lib.hid (HN1_13.out.below hB HN1_13.out.lt)
  have HN2_14 := Lib.hid (HN2_13.out.below hB HN2_13.out.lt)
  clear hB
  clear HB13 HN1_13 HN2_13 HS13
  have q1 : w14.cell? ⟨N1, 0, none⟩ = some (.int .u32 6) := (HN1_14.out.cell 0).trans HCN1.out
  have q2 : w14.cell? ⟨N2, 0, none⟩ = some (.int .u32 7) := (HN2_14.out.cell 0).trans HCN2.out
  go_wp2_with fail
  refine (ask_at HS14.out 7 (2 :: List.replicate 31 0) rfl 9 rfl (fun X => [⟨6, 1, some (X1, (1 :: List.replicate 31 0))⟩, ⟨7, 2, some (X2, (2 :: List.replicate 31 0))⟩]) (fun X => rfl)).mono ?_; rintro e w15 ⟨X3, rfl, hS, hK⟩
  have HS15 := Lib.hid hS
  clear hS
  have HB15 := Lib.hid (below_keeps HB14.out hK (Nat.le_refl _) (fun i hi => by rw [hi]; exact HG2B.out))
  have HN1_15 := Lib.hid (HN1_14.out.keep hK (fun h => HN1G2.out h))
  have HN2_15 := Lib.hid (HN2_14.out.keep hK (fun h => HN2G2.out h))
  clear hK
  clear HB14 HN1_14 HN2_14 HS14
  clear q1 q2
  go_wp2_with fail
  go_ret
  exact ⟨rfl, HB15.out⟩
end Go.Proofs.Ytnnbjcnfekgngaa
