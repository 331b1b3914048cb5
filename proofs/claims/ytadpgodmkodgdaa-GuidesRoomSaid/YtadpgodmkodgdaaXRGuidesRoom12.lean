/- The walk over SHA-256: a block is taken in; The walk over SHA-256: a run of bytes in memory; the two statements of 'takes' that draw their order. (Printed by wip/mksha9.py.). -/
import Derived.Test.YtadpgodmkodgdaaXRGuidesRoom11
namespace Go.Proofs.Ytadpgodmkodgdaa
open Go.RowKit
set_option linter.unusedSimpArgs false
set_option linter.unusedVariables false

theorem mix_next (z l : List Int) (t : Nat) (x : Int) (h : z.length = l.length) (hx : z[t]? = some x) : (z.take t ++ l.drop t).set t x = z.take (t + 1) ++ l.drop (t + 1) := by
  have ht : t < z.length := (List.getElem?_eq_some_iff.1 hx).1
  have hz : z.take (t + 1) = z.take t ++ [x] := by rw [List.take_add_one, hx]; rfl
  rw [hz, List.set_append_right _ _ (by rw [List.length_take]; omega), List.length_take, show t - min t z.length = 0 by omega, List.append_assoc]
  congr 1
  rw [List.drop_eq_getElem_cons (show t < l.length by omega)]
  rfl
theorem wrap_u32 (x : Int) : IntKind.u32.wrap x = x % 4294967296 := by simp [IntKind.wrap, IntKind.bits, IntKind.signed]
set_option maxRecDepth 100000 in
set_option maxHeartbeats 4000000 in
theorem after_any (X o : Nat) (s bs : List Int) (w : World) (hs : Eight s) (hr : Rd w .u8 (some ⟨X, o, none⟩) 64 bs) :
    Calls Try.prog 74 #[.agg (s.map (Value.int .u32)).toArray, .pointer (some ⟨X, o, none⟩)] w fun e w' => e = .returned (.agg ((afterL s bs).map (Value.int .u32)).toArray) ∧ Below w.heap.size w w' := by
  obtain ⟨C, hCC⟩ : ∃ C, s.map (Value.int .u32) = C := ⟨_, rfl⟩
  have hcl : C.length = 8 := by rw [← hCC, List.length_map, hs.len]
  have hone : ∀ v ∈ C, v.oneCell' = true := fun v hv => by rw [← hCC] at hv; obtain ⟨x, _, rfl⟩ := List.mem_map.1 hv; rfl
  rw [hCC]
  have hX : X < w.heap.size := by
    obtain ⟨b, off, e, hb, _⟩ := hr.row (by omega)
    injection e with e
    injection e with e1 e2
    rw [e1]; exact hb
  have HXL := Lib.hid hX
  have HAL := Lib.hid alloc_e8
  have HZL : Hid (zE8.length = 8) := Lib.hid rfl
  have HSZ : Hid ((Try.prog.info? 134).map (·.size) = some C.length) := Lib.hid (by rw [hcl]; exact size_e8)
  have HU := Lib.hid Try.underlying134
  generalize zE8 = Z at HAL HZL
  have HS := Lib.hid hs
  have HCC := Lib.hid hCC
  have HCL := Lib.hid hcl
  have HONE := Lib.hid hone
  have HR := Lib.hid hr
  clear hs hCC hcl hone hr hX
  go_enter Try.func74, Try.ntmps74
  go_upto_region 0 with fail
  rename_i K0 hK0
  refine wp_region_lit ?_
  refine wpList_boxT (o := ⟨some 2, .box 134 _, _, _, _, _⟩) rfl 134 _ rfl C rfl ?_; intro w1 HK1 HB1
  obtain ⟨R, hR⟩ : ∃ R, w.heap.size = R := ⟨_, rfl⟩
  have HRS := Lib.hid hR
  rw [hR] at HK1 ⊢
  clear hR
  refine wpList_allocT (o := ⟨some 4, .alloc 134, _, _, _, _⟩) rfl 134 Z (fun W => HAL.out W _ rfl _) ?_; intro w2 HK2 HB2
  obtain ⟨D, hD⟩ : ∃ R, w1.heap.size = R := ⟨_, rfl⟩
  have HDS := Lib.hid hD
  rw [hD] at HK2 ⊢
  clear hD
  have HKR2 := Lib.hid (HK1.out.below HB2.out HK1.out.lt)
  have HBB2 := Lib.hid (HB1.out.trans (HB2.out.mono HB1.out.size))
  have HRR2 := Lib.hid (HR.out.below HBB2.out)
  have HDB := Lib.hid (show w.heap.size ≤ D by have := HDS.out; have := HB1.out.size; omega)
  have HRD := Lib.hid (show R ≠ D by have := HDS.out; have := HK1.out.lt; omega)
  clear HK1 HB1 HB2
  refine hK0 _ _ ?_
  clear hK0 K0
  go_upto_region 1 with fail
  rename_i K0 hK0
  refine after_r1 HKR2.out HCL.out HONE.out HRR2.out ?_
  intro q13 q14 q15 L N T B w3 hL hN hB hlL hlN hlT hlB hLN hLT hLB
  refine hK0 _ _ ?_
  clear hK0 K0
  have HLN := Lib.hid hLN
  have HLT := Lib.hid hLT
  have HLB := Lib.hid hLB
  have HLX := Lib.hid (show X ≠ L by have := HXL.out; have := HBB2.out.size; omega)
  have HKR3 := Lib.hid (HKR2.out.below hB HKR2.out.lt)
  have HKD3 := Lib.hid (HK2.out.below hB HK2.out.lt)
  have HBB3 := Lib.hid (HBB2.out.trans (hB.mono HBB2.out.size))
  have HLo := Lib.hid (show w2.heap.size ≤ L ∧ w2.heap.size ≤ N ∧ w2.heap.size ≤ T ∧ w2.heap.size ≤ B from ⟨hlL, hlN, hlT, hlB⟩)
  have HNR := Lib.hid (show R < w2.heap.size ∧ D < w2.heap.size from ⟨HKR2.out.lt, HK2.out.lt⟩)
  have HWW := Lib.hid HBB2.out.size
  have HN3 := Lib.hid hN
  have HL3 := Lib.hid hL
  clear hL hN hB hlL hlN hlT hlB hLN hLT hLB HKR2 HK2 HRR2 HBB2
  go_wp2_with ((with_reducible refine (adds_any _).mono ?_); rintro e1 w4 ⟨rfl, hB4⟩; have HB4 := Lib.hid hB4; clear hB4)
  have HKR4 := Lib.hid (HKR3.out.below HB4.out HKR3.out.lt)
  have HKD4 := Lib.hid (HKD3.out.below HB4.out HKD3.out.lt)
  have HBB4 := Lib.hid (HBB3.out.trans (HB4.out.mono HBB3.out.size))
  have HN4 := Lib.hid (HN3.out.keep (M := fun _ => False) (Keeps.of_below HB4.out) (fun h => h) (fun h => h) (fun h => h) (fun h => h))
  have HL4 := Lib.hid (HL3.out.below HB4.out HL3.out.lt)
  have HL40 : Hid (Blk w4 L 134 ((roundsL s bs 0).map (Value.int .u32))) := Lib.hid (by rw [roundsL, HCC.out]; exact HL4.out)
  clear HKR3 HKD3 HBB3 HN3 HL3 HB4 HL4
  obtain ⟨AD, hAD⟩ : ∃ AD, (addsL.map (Value.int .u32)).toArray = AD := ⟨_, rfl⟩
  have HIX := Lib.hid index_adds
  rw [hAD] at HIX ⊢
  clear hAD
  go_loopw [17] (fun i wr => ∃ t : Nat, t ≤ 64 ∧ i = .int .i64 (t : Int) ∧ Blk wr L 134 ((roundsL s bs t).map (Value.int .u32)) ∧ NumS wr N T B X o bs t ∧ Keeps (fun i => i = L ∨ i = N ∨ i = T) w4 wr) (fun i _ => 64 - (intOf i).toNat)
  case atStart => exact ⟨0, by omega, rfl, HL40.out, HN4.out, Keeps.refl _ _⟩
  case round =>
    obtain ⟨t, ht, rfl, hL, hN, hk⟩ := hrel
    have HLr := Lib.hid hL
    have HNr := Lib.hid hN
    have HKr := Lib.hid hk
    clear hL hN hk
    by_cases hlt : t < 64
    · have hidx := fun W => HIX.out W t hlt
      have i0 : (0 : Int) ≤ (t : Int) := by omega
      have i1 : (t : Int) < 64 := by omega
      have HLTt := Lib.hid hlt
      obtain ⟨k, hk⟩ : ∃ k, addsL.getD t 0 = k := ⟨_, rfl⟩
      rw [hk] at hidx
      have HKK := Lib.hid hk
      clear hk hlt ht
      obtain ⟨a, b, c, d, e, f, g, h, hl, ha, hb, hc, hd, he, hf, hg, hh⟩ := (roundsL_eight HS.out bs t).parts
      have HLS := Lib.hid hl
      rw [hl] at HLr
      have HA := Lib.hid ha
      have HE := Lib.hid he
      clear hl ha hb hc hd he hf hg hh
      go_upto_region 5 with fail
      rename_i K0 hK0
      refine after_r5 HLr.out HNr.out (by have := HLTt.out; omega) HLN.out HLT.out HE.out ?_
      intro q20 q21 q22 q23 q24 q25 q26 q27 q28 q29 q30 q31 q32 q33 q34 q35 q36 q37 q38 q39 q40 q41 q42 q43 q44 w5 hL5 hN5 hk5
      refine hK0 _ _ ?_
      clear hK0 K0
      have HL5 := Lib.hid hL5
      have HN5 := Lib.hid hN5
      have HK5 := Lib.hid (HKr.out.trans (hk5.mono (M' := fun i => i = L ∨ i = N ∨ i = T) (fun i h => .inr h)))
      clear hL5 hN5 hk5 HLr HNr HKr
      obtain ⟨p, hp⟩ : ∃ p, sumP e f g h k (wordV bs t) = p := ⟨_, rfl⟩
      have HP := Lib.hid hp
      rw [hp]
      clear hp
      go_upto_region 6 with fail
      rename_i K0 hK0
      refine after_r6 HL5.out HA.out ?_
      intro q45 q46 q47 q48 q49 q50 q51 q52 q53 q54 q55 q56 q57 q58 q59 q60 q61 q62 q63 w6 hk6
      refine hK0 _ _ ?_
      clear hK0 K0
      have HL6 := Lib.hid (HL5.out.keep hk6 (fun h => h))
      have HN6 := Lib.hid (HN5.out.keep hk6 (fun h => h) (fun h => h) (fun h => h) (fun h => h))
      have HK6 := Lib.hid (HK5.out.trans (hk6.mono (M' := fun i => i = L ∨ i = N ∨ i = T) (fun i h => h.elim)))
      clear hk6 HL5 HN5 HK5
      obtain ⟨q, hq⟩ : ∃ q, sumQ a b c = q := ⟨_, rfl⟩
      have HQ := Lib.hid hq
      rw [hq]
      clear hq
      go_upto_region 7 with fail
      rename_i K0 hK0
      refine after_r7 HL6.out ?_
      intro q64 q65 q66 w7 hL7 hk7
      refine hK0 _ _ ?_
      clear hK0 K0
      have HL7 := Lib.hid hL7
      have HN7 := Lib.hid (HN6.out.keep hk7 (fun h => HLN.out h.symm) (fun h => HLT.out h.symm) (fun h => HLB.out h.symm) (fun h => HLX.out h))
      have HK7 := Lib.hid (HK6.out.trans (hk7.mono (M' := fun i => i = L ∨ i = N ∨ i = T) (fun i h => .inl h)))
      clear hL7 hk7 HL6 HN6 HK6
      have d4 : w7.cell? ⟨L, 4, none⟩ = some (.int .u32 d) := HL7.out.cell 4
      have f4 := HL7.out.free 4
      go_upto_region 9 with fail
      rename_i K0 hK0
      obtain ⟨w8, hw8⟩ : ∃ W, w7.setCell ⟨L, 4, none⟩ (.int .u32 ((d + p) % 4294967296)) = W := ⟨_, rfl⟩
      rw [hw8]
      have HL8 : Hid (Blk w8 L 134 ([a, a, b, c, IntKind.u32.wrap (d + p), e, f, g].map (Value.int .u32))) := Lib.hid (by rw [← hw8, wrap_u32]; exact HL7.out.put 4 _)
      have hk8 : Keeps (· = L) w7 w8 := by rw [← hw8]; exact Keeps.set1 w7 ⟨L, 4, none⟩ _
      have HN8 := Lib.hid (HN7.out.keep hk8 (fun h => HLN.out h.symm) (fun h => HLT.out h.symm) (fun h => HLB.out h.symm) (fun h => HLX.out h))
      have HK8 := Lib.hid (HK7.out.trans (hk8.mono (M' := fun i => i = L ∨ i = N ∨ i = T) (fun i h => .inl h)))
      clear hw8 hk8 d4 f4 HL7 HN7 HK7
      have f0 := HL8.out.free 0
      have d0 : w8.cell? ⟨L, 0, none⟩ = some (.int .u32 a) := HL8.out.cell 0
      go_wp2_with fail
      go_roundw
      case rel =>
        have hfin : Blk (w8.setCell ⟨L, 0, none⟩ (.int .u32 ((p + q) % 4294967296))) L 134 ((roundsL s bs (t + 1)).map (Value.int .u32)) := by
          have h1 := HL8.out.put 0 (.int .u32 ((p + q) % 4294967296))
          rw [roundsL, HLS.out, HKK.out, rndL, HP.out, HQ.out, wrap_u32 (p + q)]
          exact h1
        have hk9 : Keeps (· = L) w8 (w8.setCell ⟨L, 0, none⟩ (.int .u32 ((p + q) % 4294967296))) := Keeps.set1 w8 ⟨L, 0, none⟩ _
        exact ⟨t + 1, by have := HLTt.out; omega, by go_num, hfin, HN8.out.keep hk9 (fun h => HLN.out h.symm) (fun h => HLT.out h.symm) (fun h => HLB.out h.symm) (fun h => HLX.out h), HK8.out.trans (hk9.mono (M' := fun i => i = L ∨ i = N ∨ i = T) (fun i h => .inl h))⟩
      case measure => simp [intOf]; have := HLTt.out; omega
    · obtain rfl : t = 64 := by omega
      clear hlt ht
      go_upto_region 11 with fail
      rename_i K0 hK0
      have HKR5 := Lib.hid (HKR4.out.keep HKr.out (fun h => by have h1 := HNR.out; have h2 := HLo.out; omega))
      have HKD5 := Lib.hid (HKD4.out.keep HKr.out (fun h => by have h1 := HNR.out; have h2 := HLo.out; omega))
      have HBB5 := Lib.hid (below_keeps HBB4.out HKr.out (Nat.le_refl _) (fun i h => by have h1 := HLo.out; have h2 := HWW.out; omega))
      refine wp_region_lit ?_
      refine wpList_loadT (o := ⟨some 77, _, _, _, _, _⟩) rfl 134 _ rfl R rfl 134 C _ HKR5.out HU.out rfl HSZ.out ?_
      go_wp2_with fail
      obtain ⟨l, hl⟩ : ∃ l, roundsL s bs 64 = l := ⟨_, rfl⟩
      have HE := Lib.hid (roundsL_eight HS.out bs 64)
      rw [hl] at HLr HE
      obtain ⟨z, hz⟩ : ∃ z, List.zipWith (fun x y => IntKind.u32.wrap (x + y)) l s = z := ⟨_, rfl⟩
      have HAF : Hid (afterL s bs = z) := Lib.hid (by rw [afterL, hl]; exact hz)
      have HZZ := Lib.hid hz
      have HZn : Hid (z.length = 8) := Lib.hid (by rw [← hz, List.length_zipWith, HE.out.len, HS.out.len]; rfl)
      have HLL : Hid (Blk wr L 134 ((z.take 0 ++ l.drop 0).map (Value.int .u32))) := HLr
      clear hl hz HLr HNr HKr HKR5
      generalize hwr : wr = wq at HLL HKD5 HBB5 ⊢
      clear hwr
      go_loopw [78] (fun i wr => ∃ t : Nat, t ≤ 8 ∧ i = .int .i64 (t : Int) ∧ Blk wr L 134 ((z.take t ++ l.drop t).map (Value.int .u32)) ∧ Keeps (fun i => i = L) wq wr) (fun i _ => 8 - (intOf i).toNat)
      case atStart => exact ⟨0, by omega, rfl, HLL.out, Keeps.refl _ _⟩
      case round =>
        obtain ⟨t, ht, rfl, hL, hk⟩ := hrel
        have HLr := Lib.hid hL
        have HKr := Lib.hid hk
        clear hL hk
        by_cases hlt : t < 8
        · obtain ⟨x, hx⟩ : ∃ x, l[t]? = some x := ⟨_, List.getElem?_eq_getElem (by rw [HE.out.len]; exact hlt)⟩
          obtain ⟨y, hy⟩ : ∃ y, s[t]? = some y := ⟨_, List.getElem?_eq_getElem (by rw [HS.out.len]; exact hlt)⟩
          have hzt : z[t]? = some (IntKind.u32.wrap (x + y)) := by rw [← HZZ.out, List.getElem?_zipWith, hx, hy]
          have hidx : ∀ W, (Instr.index 134 (.agg C.toArray) (.int .i64 (t : Int))).run Try.prog W = .ok (.int .u32 y) W := fun W =>
            run_index_cell W 134 24 8 _ _ t HU.out (by kernel_rfl) (by kernel_rfl) hlt (by rw [← HCC.out, List.getElem?_map, hy]; rfl)
          have dx : wr.cell? ⟨L, t, none⟩ = some (.int .u32 x) := (HLr.out.cell t).trans (by
            rw [List.getElem?_map, List.getElem?_append_right (by rw [List.length_take]; omega), List.getElem?_drop, List.length_take, HZn.out, show t + (t - min t 8) = t by omega, hx]; rfl)
          have fx := HLr.out.free t
          have i0 : (0 : Int) ≤ (t : Int) := by omega
          have i1 : (t : Int) < 8 := by omega
          have HT := Lib.hid hlt
          have HZT := Lib.hid hzt
          clear hx hy hzt hlt ht
          go_wp2_with fail
          go_roundw
          case rel =>
            refine ⟨t + 1, by have := HT.out; omega, by go_num, ?_, HKr.out.trans (Keeps.set1 wr ⟨L, t, none⟩ _)⟩
            have h1 := HLr.out.int_put t ((x + y) % 4294967296)
            rw [← wrap_u32, mix_next z l t (IntKind.u32.wrap (x + y)) (by rw [HZn.out, HE.out.len]) HZT.out] at h1
            rw [← wrap_u32]
            exact h1
          case measure => simp [intOf]; have := HT.out; omega
        · obtain rfl : t = 8 := by omega
          clear hlt ht
          go_upto_region 16 with fail
          rename_i K0 hK0
          have HLz : Hid (Blk wr L 134 (z.map (Value.int .u32))) := Lib.hid (by
            have h1 := HLr.out
            rwa [List.take_of_length_le (by rw [HZn.out]; exact Nat.le_refl _), List.drop_of_length_le (by rw [HE.out.len]; exact Nat.le_refl _), List.append_nil] at h1)
          have HKD6 := Lib.hid (HKD5.out.keep HKr.out (fun h => by have h1 := HNR.out; have h2 := HLo.out; omega))
          have HBB6 := Lib.hid (below_keeps HBB5.out HKr.out (Nat.le_refl _) (fun i h => by have h1 := HLo.out; have h2 := HWW.out; omega))
          obtain ⟨V, hV⟩ : ∃ V, z.map (Value.int .u32) = V := ⟨_, rfl⟩
          have HVL : Hid (V.length = 8) := Lib.hid (by rw [← hV, List.length_map, HZn.out])
          have HV1 : Hid (∀ v ∈ V, v.oneCell' = true) := Lib.hid (fun v hv => by rw [← hV] at hv; obtain ⟨x, _, rfl⟩ := List.mem_map.1 hv; rfl)
          have HSV : Hid ((Try.prog.info? 134).map (·.size) = some V.length) := Lib.hid (by rw [HVL.out]; exact size_e8)
          rw [hV] at HLz
          have HVV := Lib.hid hV
          clear hV
          refine wp_region_lit ?_
          refine wpList_loadT (o := ⟨some 89, _, _, _, _, _⟩) rfl 134 _ rfl L rfl 134 V _ HLz.out HU.out rfl HSV.out ?_
          refine wpList_over (o := ⟨none, _, _, _, _, _⟩) rfl 134 _ _ rfl D V Z 134 rfl rfl HKD6.out (by rw [HVL.out, HZL.out]) HSV.out HV1.out ?_; intro w9 HK9 hk9
          have HB9 := Lib.hid (below_keeps HBB6.out hk9.out (Nat.le_refl _) (fun i hi => by rw [hi]; exact HDB.out))
          go_wp2_with fail
          refine bodyPost_ret (results_rowT rfl _ D _ _ _ rfl HK9.out HU.out rfl HSV.out) rfl ?_
          exact ⟨by rw [HAF.out, HVV.out], HB9.out⟩
end Go.Proofs.Ytadpgodmkodgdaa

namespace Go.Proofs.Ytadpgodmkodgdaa
open Go.RowKit
set_option linter.unusedSimpArgs false
set_option linter.unusedVariables false

def firstL : List Int := [1779033703, 3144134277, 1013904242, 2773480762, 1359893119, 2600822924, 528734635, 1541459225]
theorem firstL_eight : Eight firstL := ⟨rfl, by unfold U32; decide⟩
/-- The eight numbers behind n blocks. -/
def stN (d : List Int) : Nat → List Int
  | 0 => firstL
  | n + 1 => afterL (stN d n) ((d.drop (64 * n)).take 64)
theorem stN_eight (d : List Int) (n : Nat) : Eight (stN d n) := by
  induction n with
  | zero => exact firstL_eight
  | succ n ih => exact afterL_eight ih _
theorem stN_append (d c : List Int) (n : Nat) (h : 64 * n ≤ d.length) : stN (d ++ c) n = stN d n := by
  induction n with
  | zero => rfl
  | succ n ih =>
    rw [stN, stN, ih (by omega), List.drop_append_of_le_length (by omega), List.take_append_of_le_length (by rw [List.length_drop]; omega)]
def Bytes (l : List Int) : Prop := ∀ x ∈ l, 0 ≤ x ∧ x ≤ 255
def runC (H : Nat) (buf : List Int) (m : Nat) (tot : Int) : List Value := .pointer (some ⟨H, 0, none⟩) :: (buf.map (Value.int .u8) ++ [.int .i64 (m : Int), .int .u64 tot])
theorem runC_length {H : Nat} {buf : List Int} {m : Nat} {tot : Int} (h : buf.length = 64) : (runC H buf m tot).length = 67 := by simp [runC, h]
theorem runC_m {H : Nat} {buf : List Int} {m : Nat} {tot : Int} (h : buf.length = 64) : (runC H buf m tot)[65]? = some (.int .i64 (m : Int)) := by
  rw [runC, List.getElem?_cons_succ, List.getElem?_append_right (by simp [h])]; simp [h]
theorem runC_t {H : Nat} {buf : List Int} {m : Nat} {tot : Int} (h : buf.length = 64) : (runC H buf m tot)[66]? = some (.int .u64 tot) := by
  rw [runC, List.getElem?_cons_succ, List.getElem?_append_right (by simp [h])]; simp [h]
theorem runC_set_m {H : Nat} {buf : List Int} {m m' : Nat} {tot : Int} (h : buf.length = 64) : (runC H buf m tot).set 65 (.int .i64 (m' : Int)) = runC H buf m' tot := by
  rw [runC, List.set_cons_succ, List.set_append_right _ _ (by simp [h])]; simp [h, runC]
theorem runC_set_t {H : Nat} {buf : List Int} {m : Nat} {tot tot' : Int} (h : buf.length = 64) : (runC H buf m tot).set 66 (.int .u64 tot') = runC H buf m tot' := by
  rw [runC, List.set_cons_succ, List.set_append_right _ _ (by simp [h])]; simp [h, runC]
theorem runC_set_h {H H' : Nat} {buf : List Int} {m : Nat} {tot : Int} : (runC H buf m tot).set 0 (.pointer (some ⟨H', 0, none⟩)) = runC H' buf m tot := rfl
/-- Bytes laid over a buffer from a place on. -/
def laid (buf : List Int) (m : Nat) (c : List Int) : List Int := buf.take m ++ c ++ buf.drop (m + c.length)
theorem laid_length {buf c : List Int} {m : Nat} (h : m + c.length ≤ buf.length) : (laid buf m c).length = buf.length := by simp [laid]; omega
theorem laid_bytes {buf c : List Int} {m : Nat} (hb : Bytes buf) (hc : Bytes c) : Bytes (laid buf m c) := fun x hx => by
  simp only [laid, List.mem_append] at hx
  rcases hx with (h | h) | h
  · exact hb x (List.mem_of_mem_take h)
  · exact hc x h
  · exact hb x (List.mem_of_mem_drop h)
theorem laid_take {buf c : List Int} {m : Nat} (h : m ≤ buf.length) : (laid buf m c).take (m + c.length) = buf.take m ++ c := by
  rw [laid, List.take_append_of_le_length (by simp; omega), List.take_of_length_le (by simp; omega)]
theorem runC_laid {H : Nat} {buf c : List Int} {m k : Nat} {tot : Int} (h : buf.length = 64) (hm : m + c.length ≤ 64) : splice (runC H buf k tot) (1 + m) (c.map (Value.int .u8)) = runC H (laid buf m c) k tot := by
  rw [runC, Nat.add_comm 1 m, splice, List.take_succ_cons, List.length_map, show m + 1 + c.length = (m + c.length) + 1 by omega, List.drop_succ_cons,
    List.take_append_of_le_length (by simp [h]; omega), List.drop_append_of_le_length (by simp [h]; omega), runC, laid]
  simp
/-- Bytes that are read and lie in no part of block G. -/
structure RdX (w : World) (G : Nat) (A : Option Addr) (n : Nat) (xs : List Int) : Prop where
  rd : Rd w .u8 A n xs
  ne : 0 < n → ∃ b off, A = some ⟨b, off, none⟩ ∧ b ≠ G
theorem RdX.keep {w w' : World} {G : Nat} {A : Option Addr} {n : Nat} {xs : List Int} (h : RdX w G A n xs) (hk : Keeps (· = G) w w') : RdX w' G A n xs := by
  refine ⟨?_, h.ne⟩
  by_cases hn : 0 < n
  · obtain ⟨b, off, rfl, hne⟩ := h.ne hn
    exact rd_keepX h.rd hk hne
  · exact ⟨h.rd.len, h.rd.big, h.rd.wf, fun h0 => absurd h0 hn⟩
set_option maxRecDepth 100000 in
theorem b64_cut (X o t : Nat) (ht : t < 64) (W : World) : (Instr.sliceAt 114 (.pointer (some ⟨X, o, none⟩)) (some (.int .i64 (t : Int))) none none).run Try.prog W = .ok (.slice (some ⟨X, o + t, none⟩) (64 - t) (64 - t)) W := by
  have hl : Try.prog.arrayLen 114 = 64 := by kernel_rfl
  have h := run_sliceAt_array_l (P := Try.prog) W 114 ⟨X, o, none⟩ Try.underlying114 .i64 (t : Int) (by omega) (by rw [hl]; omega)
  rw [h, hl]
  have hs : (sizeOf (Try.prog.elem 114)).run Try.prog W = .ok 1 W := by kernel_rfl
  rw [hs]
  have e1 : (t : Int).toNat = t := by omega
  simp only [Result.andThen_ok, slicedAt, e1, if_neg (show ¬ 64 = t by omega), Addr.add, Nat.mul_one]
  by_cases h0 : t = 0
  · rw [if_pos h0, h0]; rfl
  · rw [if_neg h0]
theorem size_u8w : (Try.prog.info? 5).map (·.size) = some 1 := by kernel_rfl
theorem bytes_of_wf {xs : List Int} (h : ∀ x ∈ xs, (Lit.int .u8 x).wf = true) : Bytes xs := fun x hx => by
  have := h x hx
  simpa [Lit.wf, IntKind.min, IntKind.max, IntKind.bits, IntKind.signed] using this
noncomputable def tk5 : Code := (Try.f69.body.bind (atRegion 5)).getD .skip
set_option maxRecDepth 100000 in
set_option maxHeartbeats 400000 in
theorem takes_r5 {K : Act → World → Prop} {POST : Exit → Act → World → Prop} {u1 u2 u3 u4 u6 u7 u8 u9 u10 u11 u12 u13 u14 u15 u16 u17 u18 u19 u20 u21 u22 u23 u24 u25 u26 u27 u28 u29 u30 u31 u32 u33 u34 u35 u36 u37 u38 u39 u40 u41 u42 u43 u44 u45 u46 u47 u48 u49 u50 u51 u52 u53 u54 u55 u56 u57 u58 u59 u60 u61 u62 u63 u64 u65 u66 u67 u68 u69 u70 u71 u72 u73 u74 u75 : Value} {G H m k cc : Nat} {B : Option Addr} {buf p : List Int} {tot : Int} {W : World}
    (hG : Blk W G 138 (runC H buf m tot)) (hb : buf.length = 64) (hm : m < 64) (hp : RdX W G B k p) (hk : 0 < k)
    (hK : ∀ v27 v28 v29 v30 v31 v32 v33 v34 v35 v36 v37 v38, ∀ W', Blk W' G 138 (runC H (laid buf m (p.take (min (64 - m) k))) m tot) → Keeps (· = G) W W' → K ⟨((.pointer (some ⟨G, 0, none⟩)) :: u1 :: u2 :: u3 :: u4 :: (.slice B k cc) :: (.int .i64 ((min (64 - m) k : Nat) : Int)) :: u7 :: u8 :: u9 :: u10 :: u11 :: u12 :: u13 :: u14 :: u15 :: u16 :: u17 :: u18 :: u19 :: u20 :: u21 :: u22 :: u23 :: u24 :: u25 :: u26 :: v27 :: v28 :: v29 :: v30 :: v31 :: v32 :: v33 :: v34 :: v35 :: v36 :: v37 :: v38 :: u39 :: u40 :: u41 :: u42 :: u43 :: u44 :: u45 :: u46 :: u47 :: u48 :: u49 :: u50 :: u51 :: u52 :: u53 :: u54 :: u55 :: u56 :: u57 :: u58 :: u59 :: u60 :: u61 :: u62 :: u63 :: u64 :: u65 :: u66 :: u67 :: u68 :: u69 :: u70 :: u71 :: u72 :: u73 :: u74 :: u75 :: []).toArray, []⟩ W') :
    Code.wp Try.prog (seqA tk5) (Exit.then K POST) ⟨((.pointer (some ⟨G, 0, none⟩)) :: u1 :: u2 :: u3 :: u4 :: (.slice B k cc) :: u6 :: u7 :: u8 :: u9 :: u10 :: u11 :: u12 :: u13 :: u14 :: u15 :: u16 :: u17 :: u18 :: u19 :: u20 :: u21 :: u22 :: u23 :: u24 :: u25 :: u26 :: u27 :: u28 :: u29 :: u30 :: u31 :: u32 :: u33 :: u34 :: u35 :: u36 :: u37 :: u38 :: u39 :: u40 :: u41 :: u42 :: u43 :: u44 :: u45 :: u46 :: u47 :: u48 :: u49 :: u50 :: u51 :: u52 :: u53 :: u54 :: u55 :: u56 :: u57 :: u58 :: u59 :: u60 :: u61 :: u62 :: u63 :: u64 :: u65 :: u66 :: u67 :: u68 :: u69 :: u70 :: u71 :: u72 :: u73 :: u74 :: u75 :: []).toArray, []⟩ W := by
  conv => arg 2; whnf
  obtain ⟨b, off, rfl, hne⟩ := hp.ne hk
  have hd : W.cell? ⟨G, 65, none⟩ = some (.int .i64 (m : Int)) := (hG.cell 65).trans (runC_m hb)
  have hl := hp.rd.len
  obtain ⟨q, hq⟩ : ∃ q, min (64 - m) k = q := ⟨_, rfl⟩
  have hqk : q ≤ k ∧ m + q ≤ 64 := by omega
  have hcl : (p.take q).length = q := by rw [List.length_take, hl]; omega
  have hn : ((p.take q).map (Value.int .u8)).length = Nat.min k (64 - m) := by rw [List.length_map, hcl, ← hq]; exact Nat.min_comm ..
  have hsrc : ∀ j v, ((p.take q).map (Value.int .u8))[j]? = some v → W.drew.cell? ((⟨b, off, none⟩ : Addr).add j) = some v := fun j v hv => by
    have hj : j < q := by have := (List.getElem?_eq_some_iff.1 hv).1; rwa [List.length_map, hcl] at this
    have ha : (⟨b, off, none⟩ : Addr).add j = ⟨b, off + j, none⟩ := by unfold Addr.add; split <;> simp_all
    obtain ⟨b', off', e, _, hc⟩ := hp.rd.row hk
    injection e with e
    injection e with e1 e2
    subst e1; subst e2
    have := hc j (by omega)
    rw [ha]
    rw [List.getElem?_map, List.getElem?_take, if_pos hj, List.getElem?_eq_getElem (by omega)] at hv
    rw [List.getElem?_eq_getElem (by omega)] at this
    exact this.trans hv
  have hone : ∀ v ∈ (p.take q).map (Value.int .u8), v.oneCell' = true := fun v hv => by obtain ⟨x, _, rfl⟩ := List.mem_map.1 hv; rfl
  have hfit : (1 + m) + ((p.take q).map (Value.int .u8)).length ≤ (runC H buf m tot).length := by rw [runC_length hb, List.length_map, hcl]; omega
  have hG' := hG.drew
  have hlaid := runC_laid (H := H) (k := m) (tot := tot) (c := p.take q) hb (by rw [hcl]; exact hqk.2)
  rw [hq] at hK
  have hQ : ((p.take q).map (Value.int .u8)).length = q := by rw [List.length_map, hcl]
  generalize (p.take q).map (Value.int .u8) = cs at *
  have HQ := Lib.hid hQ
  clear hQ
  have HG := Lib.hid hG'
  have HN := Lib.hid hn
  have HSRC := Lib.hid hsrc
  have HONE := Lib.hid hone
  have HFIT := Lib.hid hfit
  have HLAID := Lib.hid hlaid
  have HKK := Lib.hid hK
  have i0 : (0 : Int) ≤ (m : Int) := by omega
  have i1 : (m : Int) < 64 := by omega
  have hcut := fun W => b64_cut G 1 m hm W
  clear hG hn hsrc hone hfit hG' hlaid hK hp hne hl hcl hq hb hm hk hqk
  refine wp_region_noPanic ?_
  go_region_law (refine step_copy rfl _ _ 49 49 rfl 5 Try.underlying49 size_u8w (some ⟨G, 1 + m, none⟩) (some ⟨b, off, none⟩) (64 - m) (64 - m) k cc (by simp [Act.eval, Act.put]) (by simp [Act.eval, Act.put]) G (1 + m) _ 138 HG.out cs HN.out (fun _ => ⟨rfl, _, rfl, HSRC.out⟩) HFIT.out HONE.out ?_; intro w3 hb3 hk3)
  refine NoPanic.normal ?_
  have h3 := hb3.out
  rw [HLAID.out] at h3
  simp only [HQ.out, goInt]
  exact HKK.out _ _ _ _ _ _ _ _ _ _ _ _ _ h3 (Keeps.trans (Keeps.refl _ W).drew hk3)
noncomputable def tk9 : Code := (Try.f69.body.bind (atRegion 9)).getD .skip
set_option maxRecDepth 100000 in
set_option maxHeartbeats 400000 in
theorem takes_r9 {K : Act → World → Prop} {POST : Exit → Act → World → Prop} {u1 u2 u3 u4 u5 u6 u7 u8 u9 u10 u11 u12 u13 u14 u15 u16 u17 u18 u19 u20 u21 u22 u23 u24 u25 u26 u27 u28 u29 u30 u31 u32 u33 u34 u35 u36 u37 u38 u39 u40 u41 u42 u43 u44 u45 u46 u47 u48 u49 u50 u51 u52 u53 u54 u55 u56 u57 u58 u59 u60 u61 u62 u63 u64 u65 u66 u67 u68 u69 u70 u71 u72 u73 u74 u75 : Value} {G H m : Nat} {buf st : List Int} {tot : Int} {W : World}
    (hG : Blk W G 138 (runC H buf m tot)) (hb : buf.length = 64) (hbb : Bytes buf) (hH : Blk W H 134 (st.map (Value.int .u32))) (hst : Eight st)
    (hK : ∀ v58 v59 v60 v61 v62 v63 v64 v65 v66 v67, ∀ H' W', W.heap.size ≤ H' → Blk W' H' 134 ((afterL st buf).map (Value.int .u32)) → Below W.heap.size W W' → K ⟨((.pointer (some ⟨G, 0, none⟩)) :: u1 :: u2 :: u3 :: u4 :: u5 :: u6 :: (.pointer (some ⟨H', 0, none⟩)) :: u8 :: u9 :: u10 :: u11 :: u12 :: u13 :: u14 :: u15 :: u16 :: u17 :: u18 :: u19 :: u20 :: u21 :: u22 :: u23 :: u24 :: u25 :: u26 :: u27 :: u28 :: u29 :: u30 :: u31 :: u32 :: u33 :: u34 :: u35 :: u36 :: u37 :: u38 :: u39 :: u40 :: u41 :: u42 :: u43 :: u44 :: u45 :: u46 :: u47 :: u48 :: u49 :: u50 :: u51 :: u52 :: u53 :: u54 :: u55 :: u56 :: u57 :: v58 :: v59 :: v60 :: v61 :: v62 :: v63 :: v64 :: v65 :: v66 :: v67 :: u68 :: u69 :: u70 :: u71 :: u72 :: u73 :: u74 :: u75 :: []).toArray, []⟩ W') :
    Code.wp Try.prog (seqA tk9) (Exit.then K POST) ⟨((.pointer (some ⟨G, 0, none⟩)) :: u1 :: u2 :: u3 :: u4 :: u5 :: u6 :: u7 :: u8 :: u9 :: u10 :: u11 :: u12 :: u13 :: u14 :: u15 :: u16 :: u17 :: u18 :: u19 :: u20 :: u21 :: u22 :: u23 :: u24 :: u25 :: u26 :: u27 :: u28 :: u29 :: u30 :: u31 :: u32 :: u33 :: u34 :: u35 :: u36 :: u37 :: u38 :: u39 :: u40 :: u41 :: u42 :: u43 :: u44 :: u45 :: u46 :: u47 :: u48 :: u49 :: u50 :: u51 :: u52 :: u53 :: u54 :: u55 :: u56 :: u57 :: u58 :: u59 :: u60 :: u61 :: u62 :: u63 :: u64 :: u65 :: u66 :: u67 :: u68 :: u69 :: u70 :: u71 :: u72 :: u73 :: u74 :: u75 :: []).toArray, []⟩ W := by
  conv => arg 2; whnf
  have hB0 : Below W.heap.size W W.drew := ⟨rfl, rfl, rfl, Nat.le_refl _, fun _ _ => rfl⟩
  have hr : Rd W .u8 (some ⟨G, 1, none⟩) 64 buf := ⟨hb, by omega, bytes_wf hbb, fun _ => ⟨G, 1, rfl, hG.lt, fun j hj => by
    rw [hG.cell (1 + j), runC, Nat.add_comm 1 j, List.getElem?_cons_succ, List.getElem?_append_left (by rw [List.length_map, hb]; exact hj), List.getElem?_map, List.getElem?_eq_getElem (by omega)]
    rfl⟩⟩
  have hd : W.drew.cell? ⟨G, 0, none⟩ = some (.pointer (some ⟨H, 0, none⟩)) := hG.cell 0
  obtain ⟨C, hC⟩ : ∃ C, st.map (Value.int .u32) = C := ⟨_, rfl⟩
  have hcl : C.length = 8 := by rw [← hC, List.length_map, hst.len]
  have HSC : Hid ((Try.prog.info? 134).map (·.size) = some C.length) := Lib.hid (by rw [hcl]; exact size_e8)
  obtain ⟨V, hV⟩ : ∃ V, (afterL st buf).map (Value.int .u32) = V := ⟨_, rfl⟩
  have hvl : V.length = 8 := by rw [← hV, List.length_map, (afterL_eight hst buf).len]
  have HVL := Lib.hid hvl
  have HSV : Hid ((Try.prog.info? 134).map (·.size) = some V.length) := Lib.hid (by rw [hvl]; exact size_e8)
  have HV1 : Hid (∀ v ∈ V, v.oneCell' = true) := Lib.hid (fun v hv => by rw [← hV] at hv; obtain ⟨x, _, rfl⟩ := List.mem_map.1 hv; rfl)
  have haft := fun (W' : World) (h : Rd W' .u8 (some ⟨G, 1, none⟩) 64 buf) => after_any G 1 st buf W' hst h
  rw [hC] at hH
  rw [hC, hV] at haft
  rw [hV] at hK
  have HAFT := Lib.hid haft
  have HAL := Lib.hid alloc_e8
  have HZL : Hid (zE8.length = 8) := Lib.hid rfl
  have HU := Lib.hid Try.underlying134
  generalize zE8 = Z at HAL HZL
  have HKK := Lib.hid hK
  have HH := Lib.hid (show Blk W.drew H 134 C from hH.drew)
  have HB0 := Lib.hid hB0
  have HGL := Lib.hid hG.lt
  have HRW := Lib.hid hr
  have HHW := Lib.hid hH
  have HR0 := Lib.hid (hr.below hB0)
  clear hG hb hbb hH hst hK hr hB0 hC hcl hV hvl haft
  refine wp_region_noPanic ?_
  refine wp_region_held_drew (S := fun w' => w'.cell? ⟨G, 0, none⟩ = some (.pointer (some ⟨H, 0, none⟩)) ∧ w'.rangeAt H 0 C) (by kernel_rfl) ⟨hd, HH.out.range⟩ (fun hHeld => ?_)
  refine wpAnyH_take (i := 0) (oi := ⟨some 58, _, _, _, _, _⟩) (v := ?_) rfl (by kernel_rfl) (by kernel_rfl) (by kernel_rfl) (fun _ _ _ h => False.elim h) (Or.inl ⟨by rfl, ?_⟩) (by assumption) ?_
  rotate_left
  · intro w hSw
    (try dsimp only at hSw)
    go_simp
    all_goals with_reducible rfl
  (try simp only [Act.put, List.setIfInBounds_toArray, List.set_cons_zero, List.set_cons_succ])
  refine wpAnyH_take (i := 1) (oi := ⟨some 59, _, _, _, _, _⟩) (v := ?_) rfl (by kernel_rfl) (by kernel_rfl) (by kernel_rfl) (fun _ _ _ h => False.elim h) (Or.inl ⟨by rfl, ?_⟩) (by assumption) ?_
  rotate_left
  · intro w hSw
    (try dsimp only at hSw)
    go_simp
    all_goals with_reducible rfl
  (try simp only [Act.put, List.setIfInBounds_toArray, List.set_cons_zero, List.set_cons_succ])
  refine wpAnyH_take (i := 2) (oi := ⟨some 60, _, _, _, _, _⟩) (v := ?_) rfl (by kernel_rfl) (by kernel_rfl) (by kernel_rfl) (fun _ _ _ h => False.elim h) (Or.inl ⟨by rfl, ?_⟩) (by assumption) ?_
  rotate_left
  · intro w hSw
    (try dsimp only at hSw)
    go_simp
    all_goals with_reducible rfl
  (try simp only [Act.put, List.setIfInBounds_toArray, List.set_cons_zero, List.set_cons_succ])
  refine wpAnyH_take (i := 3) (oi := ⟨some 61, _, _, _, _, _⟩) (v := ?_) rfl (by kernel_rfl) (by kernel_rfl) (by kernel_rfl) (fun _ _ _ h => False.elim h) (Or.inl ⟨by rfl, ?_⟩) (by assumption) ?_
  rotate_left
  · intro w hSw
    (try dsimp only at hSw)
    go_simp
    all_goals with_reducible rfl
  (try simp only [Act.put, List.setIfInBounds_toArray, List.set_cons_zero, List.set_cons_succ])
  refine wpAnyH_take (i := 4) (oi := ⟨some 62, _, _, _, _, _⟩) (v := ?_) rfl (by kernel_rfl) (by kernel_rfl) (by kernel_rfl) (fun _ _ _ h => False.elim h) (Or.inl ⟨by rfl, ?_⟩) (by assumption) ?_
  rotate_left
  · intro w hSw
    (try dsimp only at hSw)
    go_simp
    all_goals with_reducible rfl
  (try simp only [Act.put, List.setIfInBounds_toArray, List.set_cons_zero, List.set_cons_succ])
  refine wpAnyH_take (i := 5) (oi := ⟨some 63, _, _, _, _, _⟩) (v := .agg C.toArray) rfl (by kernel_rfl) (by kernel_rfl) (by kernel_rfl) (fun _ _ _ h => False.elim h) ?_ (by assumption) ?_
  · refine yieldsIf_load_mid ?_ 134 _ rfl H 0 rfl C _ ?_ HU.out rfl HSC.out
    · rfl
    · (intro w hSw; (try dsimp only at hSw); go_split_ands; assumption)
  (try simp only [Act.put, List.setIfInBounds_toArray, List.set_cons_zero, List.set_cons_succ])
  refine wpAnyH_take (i := 6) (oi := ⟨some 64, _, _, _, _, _⟩) (v := ?_) rfl (by kernel_rfl) (by kernel_rfl) (by kernel_rfl) (fun _ _ _ h => False.elim h) (Or.inl ⟨by rfl, ?_⟩) (by assumption) ?_
  rotate_left
  · intro w hSw
    (try dsimp only at hSw)
    go_simp
    all_goals with_reducible rfl
  (try simp only [Act.put, List.setIfInBounds_toArray, List.set_cons_zero, List.set_cons_succ])
  refine wpAnyH_take (i := 7) (oi := ⟨some 65, _, _, _, _, _⟩) (v := ?_) rfl (by kernel_rfl) (by kernel_rfl) (by kernel_rfl) (fun _ _ _ h => False.elim h) (Or.inl ⟨by rfl, ?_⟩) (by assumption) ?_
  rotate_left
  · intro w hSw
    (try dsimp only at hSw)
    go_simp
    all_goals with_reducible rfl
  (try simp only [Act.put, List.setIfInBounds_toArray, List.set_cons_zero, List.set_cons_succ])
  refine wpAnyH_take (i := 8) (oi := ⟨some 66, _, _, _, _, _⟩) (v := ?_) rfl (by kernel_rfl) (by kernel_rfl) (by kernel_rfl) (fun _ _ _ h => False.elim h) (Or.inl ⟨by rfl, ?_⟩) (by assumption) ?_
  rotate_left
  · intro w hSw
    (try dsimp only at hSw)
    go_simp
    all_goals with_reducible rfl
  (try simp only [Act.put, List.setIfInBounds_toArray, List.set_cons_zero, List.set_cons_succ])
  refine wpAnyH_ready (rs := [9, 10]) (by kernel_rfl) (by simp) ?_
  refine AllReadyH.cons (o := ⟨some 67, _, _, _, _, _⟩) rfl (fun K hK => ?_) ?_
  rotate_left
  refine AllReadyH.cons (o := ⟨some 7, _, _, _, _, _⟩) rfl (fun K hK => ?_) AllReadyH.nil
  · refine step_allocT rfl 134 Z (fun W => HAL.out W _ rfl _) ?_
    intro w010 HK1 HB1
    obtain ⟨L, hL⟩ : ∃ S, (W.drew).heap.size = S := ⟨_, rfl⟩
    rw [hL] at HK1 ⊢
    have HSL : Hid (W.heap.size ≤ L) := Lib.hid (by have := HB0.out.size; rw [← hL]; exact this)
    have HL010 := HK1
    have HB010 := Lib.hid (HB0.out.trans (HB1.out.mono HB0.out.size))
    clear HK1 HB1 hL
    have HR010 := Lib.hid (HRW.out.below HB010.out)
    refine hK.out _ _ ⟨(HB010.out.cell (p := ⟨G, 0, none⟩) HGL.out).trans hd, (HHW.out.below HB010.out HHW.out.lt).range⟩ (fun hHeld => ?_)
    clear hK K
    (try simp only [Act.put, List.setIfInBounds_toArray, List.set_cons_zero, List.set_cons_succ])
    refine wpAnyH_ready (rs := [9]) (by kernel_rfl) (by simp) ?_
    refine AllReadyH.cons (o := ⟨some 67, _, _, _, _, _⟩) rfl (fun K hK => ?_) AllReadyH.nil
    · go_simp
      refine (HAFT.out _ HR010.out).mono ?_
      rintro e1 w0109 ⟨rfl, hb⟩
      dsimp only
      have HB0109 := Lib.hid (HB010.out.trans (hb.mono HB010.out.size))
      have HL0109 := Lib.hid (HL010.out.below hb HL010.out.lt)
      clear hb
      have HR0109 := Lib.hid (HRW.out.below HB0109.out)
      refine hK.out _ _ ⟨(HB0109.out.cell (p := ⟨G, 0, none⟩) HGL.out).trans hd, (HHW.out.below HB0109.out HHW.out.lt).range⟩ (fun hHeld => ?_)
      clear hK K
      (try simp only [Act.put, List.setIfInBounds_toArray, List.set_cons_zero, List.set_cons_succ])
      refine wpAnyH_ready (rs := [11]) (by kernel_rfl) (by simp) ?_
      refine AllReadyH.cons (o := ⟨none, _, _, _, _, _⟩) rfl (fun K hK => ?_) AllReadyH.nil
      · refine step_overT rfl 134 _ _ rfl L V Z 134 rfl rfl HL0109.out (by rw [HVL.out, HZL.out]) HSV.out HV1.out ?_
        intro w010911 HK1 hk1
        have HL010911 := HK1
        have HB010911 := Lib.hid (below_keeps HB0109.out hk1.out (Nat.le_refl _) (fun i hi => by rw [hi]; exact HSL.out))
        clear HK1 hk1
        have HR010911 := Lib.hid (HRW.out.below HB010911.out)
        refine hK.out _ _ ⟨(HB010911.out.cell (p := ⟨G, 0, none⟩) HGL.out).trans hd, (HHW.out.below HB010911.out HHW.out.lt).range⟩ (fun hHeld => ?_)
        clear hK K
        (try simp only [Act.put, List.setIfInBounds_toArray, List.set_cons_zero, List.set_cons_succ])
        refine wpAnyH_done (by kernel_rfl) ?_ _
        refine NoPanic.normal ?_
        exact HKK.out _ _ _ _ _ _ _ _ _ _ L _ HSL.out HL010911.out HB010911.out
  · go_simp
    refine (HAFT.out _ HR0.out).mono ?_
    rintro e1 w09 ⟨rfl, hb⟩
    dsimp only
    have HB09 := Lib.hid (HB0.out.trans (hb.mono HB0.out.size))
    clear hb
    have HR09 := Lib.hid (HRW.out.below HB09.out)
    refine hK.out _ _ ⟨(HB09.out.cell (p := ⟨G, 0, none⟩) HGL.out).trans hd, (HHW.out.below HB09.out HHW.out.lt).range⟩ (fun hHeld => ?_)
    clear hK K
    (try simp only [Act.put, List.setIfInBounds_toArray, List.set_cons_zero, List.set_cons_succ])
    refine wpAnyH_ready (rs := [10]) (by kernel_rfl) (by simp) ?_
    refine AllReadyH.cons (o := ⟨some 7, _, _, _, _, _⟩) rfl (fun K hK => ?_) AllReadyH.nil
    · refine step_allocT rfl 134 Z (fun W => HAL.out W _ rfl _) ?_
      intro w0910 HK1 HB1
      obtain ⟨L, hL⟩ : ∃ S, (w09).heap.size = S := ⟨_, rfl⟩
      rw [hL] at HK1 ⊢
      have HSL : Hid (W.heap.size ≤ L) := Lib.hid (by have := HB09.out.size; rw [← hL]; exact this)
      have HL0910 := HK1
      have HB0910 := Lib.hid (HB09.out.trans (HB1.out.mono HB09.out.size))
      clear HK1 HB1 hL
      have HR0910 := Lib.hid (HRW.out.below HB0910.out)
      refine hK.out _ _ ⟨(HB0910.out.cell (p := ⟨G, 0, none⟩) HGL.out).trans hd, (HHW.out.below HB0910.out HHW.out.lt).range⟩ (fun hHeld => ?_)
      clear hK K
      (try simp only [Act.put, List.setIfInBounds_toArray, List.set_cons_zero, List.set_cons_succ])
      refine wpAnyH_ready (rs := [11]) (by kernel_rfl) (by simp) ?_
      refine AllReadyH.cons (o := ⟨none, _, _, _, _, _⟩) rfl (fun K hK => ?_) AllReadyH.nil
      · refine step_overT rfl 134 _ _ rfl L V Z 134 rfl rfl HL0910.out (by rw [HVL.out, HZL.out]) HSV.out HV1.out ?_
        intro w091011 HK1 hk1
        have HL091011 := HK1
        have HB091011 := Lib.hid (below_keeps HB0910.out hk1.out (Nat.le_refl _) (fun i hi => by rw [hi]; exact HSL.out))
        clear HK1 hk1
        have HR091011 := Lib.hid (HRW.out.below HB091011.out)
        refine hK.out _ _ ⟨(HB091011.out.cell (p := ⟨G, 0, none⟩) HGL.out).trans hd, (HHW.out.below HB091011.out HHW.out.lt).range⟩ (fun hHeld => ?_)
        clear hK K
        (try simp only [Act.put, List.setIfInBounds_toArray, List.set_cons_zero, List.set_cons_succ])
        refine wpAnyH_done (by kernel_rfl) ?_ _
        refine NoPanic.normal ?_
        exact HKK.out _ _ _ _ _ _ _ _ _ _ L _ HSL.out HL091011.out HB091011.out
end Go.Proofs.Ytadpgodmkodgdaa
