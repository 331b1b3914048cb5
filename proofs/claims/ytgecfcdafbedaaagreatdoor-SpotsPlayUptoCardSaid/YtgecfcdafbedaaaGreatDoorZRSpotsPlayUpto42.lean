/- Apart of a Book of lists of bytes, spots and pieces: it is true, where each has a block of its own. Printed by mkbk.py. -/
import Derived.Test.YtgecfcdafbedaaaGreatDoorZRSpotsPlayUpto34
import Derived.Test.YtgecfcdafbedaaaGreatDoorZRSpotsPlayUpto35
import Derived.Test.YtgecfcdafbedaaaGreatDoorZRSpotsPlayUpto36
import Derived.Test.YtgecfcdafbedaaaGreatDoorZRSpotsPlayUpto37
import Derived.Test.YtgecfcdafbedaaaGreatDoorZRSpotsPlayUpto39
import Derived.Test.YtgecfcdafbedaaaGreatDoorZRSpotsPlayUpto40
import Derived.Test.YtgecfcdafbedaaaGreatDoorZRSpotsPlayUpto41
namespace Go.Proofs.YtgecfcdafbedaaaGreatDoor
open Go.RowKit
set_option linter.unusedSimpArgs false
set_option linter.unusedVariables false

set_option maxRecDepth 100000 in
set_option maxHeartbeats 16000000 in
theorem apart_bk (base B m : Nat) (H : Nat → List Hb) (w : World) (hb : BookAt base w B m H) (hn : ∀ k, k ≠ 1 → k ≠ 7 → k ≠ 10 → H k = []) (k1 : KHolds kByte base w H H 0) (k7 : KHolds kSpot base w H H 0) (k10 : KHolds kParam base w H H 0) (hbase : base ≤ w.heap.size) :
    Calls Tryz.prog 27 #[.pointer (some ⟨B, 0, none⟩)] w fun e w' => e = .returned (.bool true) ∧ Keeps (fun i => base ≤ i) w w' := by
  have P1 := Lib.hid k1
  have P7 := Lib.hid k7
  have P10 := Lib.hid k10
  have HB := Lib.hid hb
  have HN := Lib.hid hn
  have HBA := Lib.hid hbase
  clear hb hn hbase k1 k7 k10
  have E1_7 : Hid (kByte.E ≠ kSpot.E) := Lib.hid (by decide)
  have D1_7 : Hid (kByte.E ≠ kSpot.H) := Lib.hid (by decide)
  have E1_10 : Hid (kByte.E ≠ kParam.E) := Lib.hid (by decide)
  have D1_10 : Hid (kByte.E ≠ kParam.H) := Lib.hid (by decide)
  have E7_1 : Hid (kSpot.E ≠ kByte.E) := Lib.hid (by decide)
  have D7_1 : Hid (kSpot.E ≠ kByte.H) := Lib.hid (by decide)
  have E7_10 : Hid (kSpot.E ≠ kParam.E) := Lib.hid (by decide)
  have D7_10 : Hid (kSpot.E ≠ kParam.H) := Lib.hid (by decide)
  have E10_1 : Hid (kParam.E ≠ kByte.E) := Lib.hid (by decide)
  have D10_1 : Hid (kParam.E ≠ kByte.H) := Lib.hid (by decide)
  have E10_7 : Hid (kParam.E ≠ kSpot.E) := Lib.hid (by decide)
  have D10_7 : Hid (kParam.E ≠ kSpot.H) := Lib.hid (by decide)
  have K0 : Hid (Keeps (fun i => base ≤ i) w w) := Lib.hid (Keeps.refl _ _)
  go_enter Tryz.func27, Tryz.ntmps27
  go_wp2_with fail
  refine (fillByte_any base B m H w HB.out (P1.out.raw rfl) P1.out.fine).mono ?_; rintro e w1 ⟨rfl, hr, hk⟩
  have hM : ∀ i, ByTy base kByte.E w i → ByTy base kByte.E w i ∨ ByTy base kByte.H w i := fun i h => .inl h
  have P7' := Lib.hid (P7.out.far (K2 := kByte) (H2 := H) hk hM E7_1.out D7_1.out rfl)
  clear P7
  have P7 := P7'
  clear P7'
  have P10' := Lib.hid (P10.out.far (K2 := kByte) (H2 := H) hk hM E10_1.out D10_1.out rfl)
  clear P10
  have P10 := P10'
  clear P10'
  have P1' := Lib.hid (P1.out.filled hr)
  clear P1
  have P1 := P1'
  clear P1'
  have HB' := Lib.hid (HB.out.keepFar hk (fun _ h => h) okByte.far)
  clear HB
  have HB := HB'
  clear HB'
  have K1 : Hid (Keeps (fun i => base ≤ i) w w1) := Lib.hid (K0.out.trans (hk.mono (fun i hi => hi.lo (Nat.le_trans HBA.out K0.out.size))))
  clear hr hk hM
  obtain ⟨c2, c3, c4, c5, c6, c8, c9, c11, c12, c13, c14, c15⟩ := HB.out.nils HN.out
  go_wp2_with (first
    | (go_at_call 38; refine (fillInt_none B _ c2).mono ?_; rintro e w' ⟨rfl, rfl⟩)
    | (go_at_call 39; refine (fillText_none B _ c3).mono ?_; rintro e w' ⟨rfl, rfl⟩)
    | (go_at_call 40; refine (fillNum_none B _ c4).mono ?_; rintro e w' ⟨rfl, rfl⟩)
    | (go_at_call 41; refine (fillSum_none B _ c5).mono ?_; rintro e w' ⟨rfl, rfl⟩)
    | (go_at_call 42; refine (fillTag_none B _ c6).mono ?_; rintro e w' ⟨rfl, rfl⟩))
  clear c2 c3 c4 c5 c6 c8 c9 c11 c12 c13 c14 c15
  refine (fillSpot_any base B m H w1 HB.out (P7.out.raw rfl) P7.out.fine).mono ?_; rintro e w2 ⟨rfl, hr, hk⟩
  have hM : ∀ i, ByTy base kSpot.E w1 i → ByTy base kSpot.E w1 i ∨ ByTy base kSpot.H w1 i := fun i h => .inl h
  have P1' := Lib.hid (P1.out.far (K2 := kSpot) (H2 := H) hk hM E1_7.out D1_7.out rfl)
  clear P1
  have P1 := P1'
  clear P1'
  have P10' := Lib.hid (P10.out.far (K2 := kSpot) (H2 := H) hk hM E10_7.out D10_7.out rfl)
  clear P10
  have P10 := P10'
  clear P10'
  have P7' := Lib.hid (P7.out.filled hr)
  clear P7
  have P7 := P7'
  clear P7'
  have HB' := Lib.hid (HB.out.keepFar hk (fun _ h => h) okSpot.far)
  clear HB
  have HB := HB'
  clear HB'
  have K2 : Hid (Keeps (fun i => base ≤ i) w w2) := Lib.hid (K1.out.trans (hk.mono (fun i hi => hi.lo (Nat.le_trans HBA.out K1.out.size))))
  clear hr hk hM
  obtain ⟨c2, c3, c4, c5, c6, c8, c9, c11, c12, c13, c14, c15⟩ := HB.out.nils HN.out
  go_wp2_with (first
    | (go_at_call 44; refine (fillGen_none B _ c8).mono ?_; rintro e w' ⟨rfl, rfl⟩)
    | (go_at_call 45; refine (fillLane_none B _ c9).mono ?_; rintro e w' ⟨rfl, rfl⟩))
  clear c2 c3 c4 c5 c6 c8 c9 c11 c12 c13 c14 c15
  refine (fillParam_any base B m H w2 HB.out (P10.out.raw rfl) P10.out.fine).mono ?_; rintro e w3 ⟨rfl, hr, hk⟩
  have hM : ∀ i, ByTy base kParam.E w2 i → ByTy base kParam.E w2 i ∨ ByTy base kParam.H w2 i := fun i h => .inl h
  have P1' := Lib.hid (P1.out.far (K2 := kParam) (H2 := H) hk hM E1_10.out D1_10.out rfl)
  clear P1
  have P1 := P1'
  clear P1'
  have P7' := Lib.hid (P7.out.far (K2 := kParam) (H2 := H) hk hM E7_10.out D7_10.out rfl)
  clear P7
  have P7 := P7'
  clear P7'
  have P10' := Lib.hid (P10.out.filled hr)
  clear P10
  have P10 := P10'
  clear P10'
  have HB' := Lib.hid (HB.out.keepFar hk (fun _ h => h) okParam.far)
  clear HB
  have HB := HB'
  clear HB'
  have K3 : Hid (Keeps (fun i => base ≤ i) w w3) := Lib.hid (K2.out.trans (hk.mono (fun i hi => hi.lo (Nat.le_trans HBA.out K2.out.size))))
  clear hr hk hM
  obtain ⟨c2, c3, c4, c5, c6, c8, c9, c11, c12, c13, c14, c15⟩ := HB.out.nils HN.out
  go_wp2_with (first
    | (go_at_call 47; refine (fillPacket_none B _ c11).mono ?_; rintro e w' ⟨rfl, rfl⟩)
    | (go_at_call 48; refine (fillFrame_none B _ c12).mono ?_; rintro e w' ⟨rfl, rfl⟩)
    | (go_at_call 49; refine (fillMail_none B _ c13).mono ?_; rintro e w' ⟨rfl, rfl⟩)
    | (go_at_call 50; refine (fillSession_none B _ c14).mono ?_; rintro e w' ⟨rfl, rfl⟩)
    | (go_at_call 51; refine (fillRecord_none B _ c15).mono ?_; rintro e w' ⟨rfl, rfl⟩))
  clear c2 c3 c4 c5 c6 c8 c9 c11 c12 c13 c14 c15
  refine (growByte_any base B m H w3 HB.out (by rw [show H 1 = H 1 from P1.out.same (by omega)]; exact P1.out.marked rfl) (by rw [show H 1 = H 1 from P1.out.same (by omega)]; exact P1.out.fine) (Nat.le_trans HBA.out K3.out.size)).mono ?_; rintro e w4 ⟨rfl, ⟨H1, hb', hl', ho', hg'⟩, hk⟩
  have hM : ∀ i, (ByTy base kByte.E w3 i ∨ ByTy base kByte.H w3 i) → ByTy base kByte.E w3 i ∨ ByTy base kByte.H w3 i := fun i h => h
  have P7' := Lib.hid (P7.out.far (K2 := kByte) (H2 := H1) hk hM E7_1.out D7_1.out (ho' 7 (by omega)))
  clear P7
  have P7 := P7'
  clear P7'
  have P10' := Lib.hid (P10.out.far (K2 := kByte) (H2 := H1) hk hM E10_1.out D10_1.out (ho' 10 (by omega)))
  clear P10
  have P10 := P10'
  clear P10'
  have P1' := Lib.hid (P1.out.more hl' hg')
  clear P1
  have P1 := P1'
  clear P1'
  have HN' := Lib.hid (fun k (h1 : k ≠ 1) (h2 : k ≠ 7) (h3 : k ≠ 10) => (ho' k (by omega)).trans (HN.out k h1 h2 h3))
  clear HN
  have HN := HN'
  clear HN'
  clear HB
  have HB := Lib.hid hb'
  have K4 : Hid (Keeps (fun i => base ≤ i) w w4) := Lib.hid (K3.out.trans (hk.mono (fun i hi => hi.elim (fun h => h.lo (Nat.le_trans HBA.out K3.out.size)) (fun h => h.lo (Nat.le_trans HBA.out K3.out.size)))))
  clear hb' hl' ho' hg' hk hM
  obtain ⟨c2, c3, c4, c5, c6, c8, c9, c11, c12, c13, c14, c15⟩ := HB.out.nils HN.out
  go_wp2_with (first
    | (go_at_call 53; refine (growInt_none B _ c2).mono ?_; rintro e w' ⟨rfl, rfl⟩)
    | (go_at_call 54; refine (growText_none B _ c3).mono ?_; rintro e w' ⟨rfl, rfl⟩)
    | (go_at_call 55; refine (growNum_none B _ c4).mono ?_; rintro e w' ⟨rfl, rfl⟩)
    | (go_at_call 56; refine (growSum_none B _ c5).mono ?_; rintro e w' ⟨rfl, rfl⟩)
    | (go_at_call 57; refine (growTag_none B _ c6).mono ?_; rintro e w' ⟨rfl, rfl⟩))
  clear c2 c3 c4 c5 c6 c8 c9 c11 c12 c13 c14 c15
  refine (growSpot_any base B m H1 w4 HB.out (by rw [show H1 7 = H 7 from P7.out.same (by omega)]; exact P7.out.marked rfl) (by rw [show H1 7 = H 7 from P7.out.same (by omega)]; exact P7.out.fine) (Nat.le_trans HBA.out K4.out.size)).mono ?_; rintro e w5 ⟨rfl, ⟨H2, hb', hl', ho', hg'⟩, hk⟩
  have hM : ∀ i, (ByTy base kSpot.E w4 i ∨ ByTy base kSpot.H w4 i) → ByTy base kSpot.E w4 i ∨ ByTy base kSpot.H w4 i := fun i h => h
  have P1' := Lib.hid (P1.out.far (K2 := kSpot) (H2 := H2) hk hM E1_7.out D1_7.out (ho' 1 (by omega)))
  clear P1
  have P1 := P1'
  clear P1'
  have P10' := Lib.hid (P10.out.far (K2 := kSpot) (H2 := H2) hk hM E10_7.out D10_7.out (ho' 10 (by omega)))
  clear P10
  have P10 := P10'
  clear P10'
  have P7' := Lib.hid (P7.out.more hl' hg')
  clear P7
  have P7 := P7'
  clear P7'
  have HN' := Lib.hid (fun k (h1 : k ≠ 1) (h2 : k ≠ 7) (h3 : k ≠ 10) => (ho' k (by omega)).trans (HN.out k h1 h2 h3))
  clear HN
  have HN := HN'
  clear HN'
  clear HB
  have HB := Lib.hid hb'
  have K5 : Hid (Keeps (fun i => base ≤ i) w w5) := Lib.hid (K4.out.trans (hk.mono (fun i hi => hi.elim (fun h => h.lo (Nat.le_trans HBA.out K4.out.size)) (fun h => h.lo (Nat.le_trans HBA.out K4.out.size)))))
  clear hb' hl' ho' hg' hk hM
  obtain ⟨c2, c3, c4, c5, c6, c8, c9, c11, c12, c13, c14, c15⟩ := HB.out.nils HN.out
  go_wp2_with (first
    | (go_at_call 59; refine (growGen_none B _ c8).mono ?_; rintro e w' ⟨rfl, rfl⟩)
    | (go_at_call 60; refine (growLane_none B _ c9).mono ?_; rintro e w' ⟨rfl, rfl⟩))
  clear c2 c3 c4 c5 c6 c8 c9 c11 c12 c13 c14 c15
  refine (growParam_any base B m H2 w5 HB.out (by rw [show H2 10 = H 10 from P10.out.same (by omega)]; exact P10.out.marked rfl) (by rw [show H2 10 = H 10 from P10.out.same (by omega)]; exact P10.out.fine) (Nat.le_trans HBA.out K5.out.size)).mono ?_; rintro e w6 ⟨rfl, ⟨H3, hb', hl', ho', hg'⟩, hk⟩
  have hM : ∀ i, (ByTy base kParam.E w5 i ∨ ByTy base kParam.H w5 i) → ByTy base kParam.E w5 i ∨ ByTy base kParam.H w5 i := fun i h => h
  have P1' := Lib.hid (P1.out.far (K2 := kParam) (H2 := H3) hk hM E1_10.out D1_10.out (ho' 1 (by omega)))
  clear P1
  have P1 := P1'
  clear P1'
  have P7' := Lib.hid (P7.out.far (K2 := kParam) (H2 := H3) hk hM E7_10.out D7_10.out (ho' 7 (by omega)))
  clear P7
  have P7 := P7'
  clear P7'
  have P10' := Lib.hid (P10.out.more hl' hg')
  clear P10
  have P10 := P10'
  clear P10'
  have HN' := Lib.hid (fun k (h1 : k ≠ 1) (h2 : k ≠ 7) (h3 : k ≠ 10) => (ho' k (by omega)).trans (HN.out k h1 h2 h3))
  clear HN
  have HN := HN'
  clear HN'
  clear HB
  have HB := Lib.hid hb'
  have K6 : Hid (Keeps (fun i => base ≤ i) w w6) := Lib.hid (K5.out.trans (hk.mono (fun i hi => hi.elim (fun h => h.lo (Nat.le_trans HBA.out K5.out.size)) (fun h => h.lo (Nat.le_trans HBA.out K5.out.size)))))
  clear hb' hl' ho' hg' hk hM
  obtain ⟨c2, c3, c4, c5, c6, c8, c9, c11, c12, c13, c14, c15⟩ := HB.out.nils HN.out
  go_wp2_with (first
    | (go_at_call 62; refine (growPacket_none B _ c11).mono ?_; rintro e w' ⟨rfl, rfl⟩)
    | (go_at_call 63; refine (growFrame_none B _ c12).mono ?_; rintro e w' ⟨rfl, rfl⟩)
    | (go_at_call 64; refine (growMail_none B _ c13).mono ?_; rintro e w' ⟨rfl, rfl⟩)
    | (go_at_call 65; refine (growSession_none B _ c14).mono ?_; rintro e w' ⟨rfl, rfl⟩)
    | (go_at_call 66; refine (growRecord_none B _ c15).mono ?_; rintro e w' ⟨rfl, rfl⟩))
  clear c2 c3 c4 c5 c6 c8 c9 c11 c12 c13 c14 c15
  refine (lookByte_any base B m H3 w6 HB.out P1.out.seen).mono ?_; rintro e w7 ⟨rfl, hB⟩
  have P1' := Lib.hid (P1.out.below hB)
  clear P1
  have P1 := P1'
  clear P1'
  have P7' := Lib.hid (P7.out.below hB)
  clear P7
  have P7 := P7'
  clear P7'
  have P10' := Lib.hid (P10.out.below hB)
  clear P10
  have P10 := P10'
  clear P10'
  have HB' := Lib.hid (HB.out.below hB)
  clear HB
  have HB := HB'
  clear HB'
  have K7 : Hid (Keeps (fun i => base ≤ i) w w7) := Lib.hid (K6.out.below hB)
  clear hB
  obtain ⟨c2, c3, c4, c5, c6, c8, c9, c11, c12, c13, c14, c15⟩ := HB.out.nils HN.out
  go_wp2_with (first
    | (go_at_call 68; refine (lookInt_none B _ c2).mono ?_; rintro e w' ⟨rfl, rfl⟩)
    | (go_at_call 69; refine (lookText_none B _ c3).mono ?_; rintro e w' ⟨rfl, rfl⟩)
    | (go_at_call 70; refine (lookNum_none B _ c4).mono ?_; rintro e w' ⟨rfl, rfl⟩)
    | (go_at_call 71; refine (lookSum_none B _ c5).mono ?_; rintro e w' ⟨rfl, rfl⟩)
    | (go_at_call 72; refine (lookTag_none B _ c6).mono ?_; rintro e w' ⟨rfl, rfl⟩))
  clear c2 c3 c4 c5 c6 c8 c9 c11 c12 c13 c14 c15
  refine (lookSpot_any base B m H3 w7 HB.out P7.out.seen).mono ?_; rintro e w8 ⟨rfl, hB⟩
  have P1' := Lib.hid (P1.out.below hB)
  clear P1
  have P1 := P1'
  clear P1'
  have P7' := Lib.hid (P7.out.below hB)
  clear P7
  have P7 := P7'
  clear P7'
  have P10' := Lib.hid (P10.out.below hB)
  clear P10
  have P10 := P10'
  clear P10'
  have HB' := Lib.hid (HB.out.below hB)
  clear HB
  have HB := HB'
  clear HB'
  have K8 : Hid (Keeps (fun i => base ≤ i) w w8) := Lib.hid (K7.out.below hB)
  clear hB
  obtain ⟨c2, c3, c4, c5, c6, c8, c9, c11, c12, c13, c14, c15⟩ := HB.out.nils HN.out
  go_wp2_with (first
    | (go_at_call 74; refine (lookGen_none B _ c8).mono ?_; rintro e w' ⟨rfl, rfl⟩)
    | (go_at_call 75; refine (lookLane_none B _ c9).mono ?_; rintro e w' ⟨rfl, rfl⟩))
  clear c2 c3 c4 c5 c6 c8 c9 c11 c12 c13 c14 c15
  refine (lookParam_any base B m H3 w8 HB.out P10.out.seen).mono ?_; rintro e w9 ⟨rfl, hB⟩
  have P1' := Lib.hid (P1.out.below hB)
  clear P1
  have P1 := P1'
  clear P1'
  have P7' := Lib.hid (P7.out.below hB)
  clear P7
  have P7 := P7'
  clear P7'
  have P10' := Lib.hid (P10.out.below hB)
  clear P10
  have P10 := P10'
  clear P10'
  have HB' := Lib.hid (HB.out.below hB)
  clear HB
  have HB := HB'
  clear HB'
  have K9 : Hid (Keeps (fun i => base ≤ i) w w9) := Lib.hid (K8.out.below hB)
  clear hB
  obtain ⟨c2, c3, c4, c5, c6, c8, c9, c11, c12, c13, c14, c15⟩ := HB.out.nils HN.out
  go_wp2_with (first
    | (go_at_call 77; refine (lookPacket_none B _ c11).mono ?_; rintro e w' ⟨rfl, rfl⟩)
    | (go_at_call 78; refine (lookFrame_none B _ c12).mono ?_; rintro e w' ⟨rfl, rfl⟩)
    | (go_at_call 79; refine (lookMail_none B _ c13).mono ?_; rintro e w' ⟨rfl, rfl⟩)
    | (go_at_call 80; refine (lookSession_none B _ c14).mono ?_; rintro e w' ⟨rfl, rfl⟩)
    | (go_at_call 81; refine (lookRecord_none B _ c15).mono ?_; rintro e w' ⟨rfl, rfl⟩))
  clear c2 c3 c4 c5 c6 c8 c9 c11 c12 c13 c14 c15
  go_ret
  exact ⟨rfl, K9.out⟩
end Go.Proofs.YtgecfcdafbedaaaGreatDoor
