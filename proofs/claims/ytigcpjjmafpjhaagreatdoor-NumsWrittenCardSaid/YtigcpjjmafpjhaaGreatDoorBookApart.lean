/- Apart of a Book of lists of bytes alone: it is true, where each has a block of its own. Printed by mkbook.py. -/
import Derived.Test.YtigcpjjmafpjhaaGreatDoorBookLook
import Derived.Test.YtigcpjjmafpjhaaGreatDoorBookKeep
import Derived.Test.YtigcpjjmafpjhaaGreatDoorBookNone
namespace Go.Proofs.YtigcpjjmafpjhaaGreatDoor
open Go.RowKit
set_option linter.unusedSimpArgs false
set_option linter.unusedVariables false

theorem BookAt.nils {base B : Nat} {w : World} {hs : List Hb} (hb : BookAt base w B hs) : w.cell? ⟨B, 2, none⟩ = some (.slice none 0 0) ∧ w.cell? ⟨B, 3, none⟩ = some (.slice none 0 0) ∧ w.cell? ⟨B, 4, none⟩ = some (.slice none 0 0) ∧ w.cell? ⟨B, 5, none⟩ = some (.slice none 0 0) ∧ w.cell? ⟨B, 6, none⟩ = some (.slice none 0 0) ∧ w.cell? ⟨B, 7, none⟩ = some (.slice none 0 0) ∧ w.cell? ⟨B, 8, none⟩ = some (.slice none 0 0) ∧ w.cell? ⟨B, 9, none⟩ = some (.slice none 0 0) ∧ w.cell? ⟨B, 10, none⟩ = some (.slice none 0 0) ∧ w.cell? ⟨B, 11, none⟩ = some (.slice none 0 0) ∧ w.cell? ⟨B, 12, none⟩ = some (.slice none 0 0) ∧ w.cell? ⟨B, 13, none⟩ = some (.slice none 0 0) ∧ w.cell? ⟨B, 14, none⟩ = some (.slice none 0 0) ∧ w.cell? ⟨B, 15, none⟩ = some (.slice none 0 0) := by
  obtain ⟨S, h, _⟩ := hb.box
  exact ⟨h.cell 2, h.cell 3, h.cell 4, h.cell 5, h.cell 6, h.cell 7, h.cell 8, h.cell 9, h.cell 10, h.cell 11, h.cell 12, h.cell 13, h.cell 14, h.cell 15⟩
set_option maxRecDepth 100000 in
set_option maxHeartbeats 8000000 in
theorem apart_any (base B : Nat) (hs : List Hb) (w : World) (hb : BookAt base w B hs) (hrow : ∀ (i : Nat) (h : Hb), hs[i]? = some h → ∃ xs, RowIs base w h xs) (hf : Fine base w hs) (hbase : base ≤ w.heap.size) :
    Calls Tryz.prog 16 #[.pointer (some ⟨B, 0, none⟩)] w fun e w' => e = .returned (.bool true) ∧ Keeps (fun i => base ≤ i) w w' := by
  have hfill := fill_any base B hs w hb hrow hf hbase
  have HF := Lib.hid hf
  have HFILL := Lib.hid hfill
  have HBA := Lib.hid hbase
  clear hb hrow hf hbase hfill
  go_enter Tryz.func16, Tryz.ntmps16
  go_wp2_with fail
  refine HFILL.out.mono ?_; rintro e w1 ⟨rfl, hb1, hr1, hk1⟩
  obtain ⟨c2, c3, c4, c5, c6, c7, c8, c9, c10, c11, c12, c13, c14, c15⟩ := hb1.nils
  have hgrow := growb_any base B hs w1 hb1 hr1 ⟨HF.out.unlike, HF.out.n, HF.out.len⟩ (Nat.le_trans HBA.out hk1.size)
  have HGROW := Lib.hid hgrow
  have HR1 := Lib.hid hr1
  have HK1 := Lib.hid hk1
  clear hb1 hr1 hk1 hgrow
  go_wp2_with (first
    | (go_at_call 27; refine (fillInt_none B _ c2).mono ?_; rintro e w' ⟨rfl, rfl⟩)
    | (go_at_call 28; refine (fillText_none B _ c3).mono ?_; rintro e w' ⟨rfl, rfl⟩)
    | (go_at_call 29; refine (fillNum_none B _ c4).mono ?_; rintro e w' ⟨rfl, rfl⟩)
    | (go_at_call 30; refine (fillSum_none B _ c5).mono ?_; rintro e w' ⟨rfl, rfl⟩)
    | (go_at_call 31; refine (fillTag_none B _ c6).mono ?_; rintro e w' ⟨rfl, rfl⟩)
    | (go_at_call 32; refine (fillSpot_none B _ c7).mono ?_; rintro e w' ⟨rfl, rfl⟩)
    | (go_at_call 33; refine (fillGen_none B _ c8).mono ?_; rintro e w' ⟨rfl, rfl⟩)
    | (go_at_call 34; refine (fillLane_none B _ c9).mono ?_; rintro e w' ⟨rfl, rfl⟩)
    | (go_at_call 35; refine (fillParam_none B _ c10).mono ?_; rintro e w' ⟨rfl, rfl⟩)
    | (go_at_call 36; refine (fillPacket_none B _ c11).mono ?_; rintro e w' ⟨rfl, rfl⟩)
    | (go_at_call 37; refine (fillFrame_none B _ c12).mono ?_; rintro e w' ⟨rfl, rfl⟩)
    | (go_at_call 38; refine (fillMail_none B _ c13).mono ?_; rintro e w' ⟨rfl, rfl⟩)
    | (go_at_call 39; refine (fillSession_none B _ c14).mono ?_; rintro e w' ⟨rfl, rfl⟩)
    | (go_at_call 40; refine (fillRecord_none B _ c15).mono ?_; rintro e w' ⟨rfl, rfl⟩))
  refine HGROW.out.mono ?_; rintro e w2 ⟨rfl, ⟨hs', hb2, hl2, hg2⟩, hk2⟩
  obtain ⟨d2, d3, d4, d5, d6, d7, d8, d9, d10, d11, d12, d13, d14, d15⟩ := hb2.nils
  have hse : ∀ (i : Nat) (h' : Hb), hs'[i]? = some h' → ∃ h, Seen base w2 h h' := fun i h' hi' => by
    have hlt : i < hs.length := by rw [← hl2]; exact (List.getElem?_eq_some_iff.1 hi').1
    have hi : hs[i]? = some hs[i] := List.getElem?_eq_getElem hlt
    obtain ⟨h2, e2, g2⟩ := hg2 i _ hi
    rw [hi'] at e2
    injection e2 with e2
    subst e2
    refine ⟨hs[i], g2.is, g2.row, g2.low, fun h0 => ?_, HF.out.n i _ hi, HF.out.len i _ hi⟩
    obtain ⟨g, hA, _, _, _, hg, _⟩ := (HR1.out i _ hi).at_ h0
    exact ⟨g, hA, Nat.lt_of_lt_of_le hg hk2.size⟩
  have hlook := lookb_any base B hs' w2 hb2 hse
  have HLOOK := Lib.hid hlook
  have HB2 := Lib.hid hb2
  have HK2 := Lib.hid (HK1.out.trans hk2)
  clear hb2 hl2 hg2 hk2 hse hlook c2 c3 c4 c5 c6 c7 c8 c9 c10 c11 c12 c13 c14 c15
  go_wp2_with (first
    | (go_at_call 42; refine (growInt_none B _ d2).mono ?_; rintro e w' ⟨rfl, rfl⟩)
    | (go_at_call 43; refine (growText_none B _ d3).mono ?_; rintro e w' ⟨rfl, rfl⟩)
    | (go_at_call 44; refine (growNum_none B _ d4).mono ?_; rintro e w' ⟨rfl, rfl⟩)
    | (go_at_call 45; refine (growSum_none B _ d5).mono ?_; rintro e w' ⟨rfl, rfl⟩)
    | (go_at_call 46; refine (growTag_none B _ d6).mono ?_; rintro e w' ⟨rfl, rfl⟩)
    | (go_at_call 47; refine (growSpot_none B _ d7).mono ?_; rintro e w' ⟨rfl, rfl⟩)
    | (go_at_call 48; refine (growGen_none B _ d8).mono ?_; rintro e w' ⟨rfl, rfl⟩)
    | (go_at_call 49; refine (growLane_none B _ d9).mono ?_; rintro e w' ⟨rfl, rfl⟩)
    | (go_at_call 50; refine (growParam_none B _ d10).mono ?_; rintro e w' ⟨rfl, rfl⟩)
    | (go_at_call 51; refine (growPacket_none B _ d11).mono ?_; rintro e w' ⟨rfl, rfl⟩)
    | (go_at_call 52; refine (growFrame_none B _ d12).mono ?_; rintro e w' ⟨rfl, rfl⟩)
    | (go_at_call 53; refine (growMail_none B _ d13).mono ?_; rintro e w' ⟨rfl, rfl⟩)
    | (go_at_call 54; refine (growSession_none B _ d14).mono ?_; rintro e w' ⟨rfl, rfl⟩)
    | (go_at_call 55; refine (growRecord_none B _ d15).mono ?_; rintro e w' ⟨rfl, rfl⟩))
  refine HLOOK.out.mono ?_; rintro e w3 ⟨rfl, hB3⟩
  obtain ⟨f2, f3, f4, f5, f6, f7, f8, f9, f10, f11, f12, f13, f14, f15⟩ := (HB2.out.below hB3).nils
  have HK3 := Lib.hid (HK2.out.below hB3)
  clear hB3 d2 d3 d4 d5 d6 d7 d8 d9 d10 d11 d12 d13 d14 d15
  go_wp2_with (first
    | (go_at_call 57; refine (lookInt_none B _ f2).mono ?_; rintro e w' ⟨rfl, rfl⟩)
    | (go_at_call 58; refine (lookText_none B _ f3).mono ?_; rintro e w' ⟨rfl, rfl⟩)
    | (go_at_call 59; refine (lookNum_none B _ f4).mono ?_; rintro e w' ⟨rfl, rfl⟩)
    | (go_at_call 60; refine (lookSum_none B _ f5).mono ?_; rintro e w' ⟨rfl, rfl⟩)
    | (go_at_call 61; refine (lookTag_none B _ f6).mono ?_; rintro e w' ⟨rfl, rfl⟩)
    | (go_at_call 62; refine (lookSpot_none B _ f7).mono ?_; rintro e w' ⟨rfl, rfl⟩)
    | (go_at_call 63; refine (lookGen_none B _ f8).mono ?_; rintro e w' ⟨rfl, rfl⟩)
    | (go_at_call 64; refine (lookLane_none B _ f9).mono ?_; rintro e w' ⟨rfl, rfl⟩)
    | (go_at_call 65; refine (lookParam_none B _ f10).mono ?_; rintro e w' ⟨rfl, rfl⟩)
    | (go_at_call 66; refine (lookPacket_none B _ f11).mono ?_; rintro e w' ⟨rfl, rfl⟩)
    | (go_at_call 67; refine (lookFrame_none B _ f12).mono ?_; rintro e w' ⟨rfl, rfl⟩)
    | (go_at_call 68; refine (lookMail_none B _ f13).mono ?_; rintro e w' ⟨rfl, rfl⟩)
    | (go_at_call 69; refine (lookSession_none B _ f14).mono ?_; rintro e w' ⟨rfl, rfl⟩)
    | (go_at_call 70; refine (lookRecord_none B _ f15).mono ?_; rintro e w' ⟨rfl, rfl⟩))
  go_ret
  exact ⟨rfl, HK3.out⟩
end Go.Proofs.YtigcpjjmafpjhaaGreatDoor
