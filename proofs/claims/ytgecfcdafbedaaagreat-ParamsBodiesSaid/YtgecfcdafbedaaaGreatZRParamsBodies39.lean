/- The walks over the document's writers of bodies; The walk over the document's PutSpots, of any spots. -/
import Derived.Test.YtgecfcdafbedaaaGreatZRParamsBodies36
import Derived.Test.YtgecfcdafbedaaaGreatZRParamsBodies31
import Derived.Test.YtgecfcdafbedaaaGreatZRParamsBodies38
import Derived.Test.YtgecfcdafbedaaaGreatZRParamsBodies14
import Derived.Deep.RegionHeld3
import Derived.Deep.DeepCutAuto
import Derived.Deep.CutBlock
namespace Go.Proofs.YtgecfcdafbedaaaGreat
open Go.RowKit
set_option linter.unusedSimpArgs false
set_option linter.unusedVariables false

theorem rd_nil8 (w : World) : Rd w .u8 none 0 [] := ⟨rfl, by omega, fun x hx => by simp at hx, fun h => by omega⟩
theorem rpcount_any (v : Int) (w : World) (h0 : 0 ≤ v) (h1 : v ≤ 4294967295) : Calls Tryz.prog 32 #[.int .u32 v] w (NewO w (be v 4)) := by
  have hp := rput_own none 0 0 [] v 4 w (rd_nil8 w) (fun _ => rfl) (by omega) h0 (by omega)
  have e4 : putMany 4 = 4 := by decide
  rw [e4, List.nil_append] at hp
  have hw : IntKind.u64.wrap v = v := IntWalk.u64_in _ (by omega)
  generalize be v 4 = B at hp ⊢
  have HP := Lib.hid hp
  clear hp e4
  go_enter Tryz.func32, Tryz.ntmps32
  go_wp2_with fail
  refine HP.out.mono ?_; rintro e w1 ⟨A, c, m, hm, rfl, ho, hB⟩
  have HF := Lib.hid (And.intro hm (And.intro ho hB))
  clear hm ho hB
  go_wp2_with fail
  go_ret
  exact ⟨A, c, m, HF.out.1, rfl, HF.out.2.1, HF.out.2.2⟩
theorem rplane_any (x y : Int) (w : World) (hx : 0 ≤ x ∧ x ≤ 4294967295) (hy : 0 ≤ y ∧ y ≤ 4294967295) : Calls Tryz.prog 26 #[.int .u32 x, .int .u32 y] w (NewO w (be x 4 ++ be y 4)) := by
  have hp := rput_own none 0 0 [] x 4 w (rd_nil8 w) (fun _ => rfl) (by omega) hx.1 (by omega)
  have e4 : putMany 4 = 4 := by decide
  rw [e4, List.nil_append] at hp
  have hw : IntKind.u64.wrap x = x := IntWalk.u64_in _ (by omega)
  have hw2 : IntKind.u64.wrap y = y := IntWalk.u64_in _ (by omega)
  have HP := Lib.hid hp
  have HY := Lib.hid hy
  clear hp e4 hx hy
  go_enter Tryz.func26, Tryz.ntmps26
  go_wp2_with fail
  refine HP.out.mono ?_; rintro e w1 ⟨A, c, m, hm, rfl, ho, hB⟩
  have hm4 : m = 4 := by rw [← hm, be_length]
  subst hm4
  obtain ⟨A', c', e1, hr, hz, hc⟩ := rd_own_any ho (be_byte 4 x) (by omega)
  injection e1 with e1 _ e2
  subst e1 e2
  have hp2 := rput_own A 4 c (be x 4) y 4 w1 hr hz (by omega) HY.out.1 (by have := HY.out.2; omega)
  have e4 : putMany 4 = 4 := by decide
  rw [e4] at hp2
  have HP2 := Lib.hid hp2
  have HB := Lib.hid hB
  clear hm ho hB hr hz hc hp2 e4
  go_wp2_with fail
  refine HP2.out.mono ?_; intro e w2 h2
  obtain ⟨A2, c2, m2, hm2, rfl, ho2, hB2⟩ := h2.before HB.out
  have HF := Lib.hid (And.intro hm2 (And.intro ho2 hB2))
  clear hm2 ho2 hB2 h2
  go_wp2_with fail
  go_ret
  exact ⟨A2, c2, m2, HF.out.1, rfl, HF.out.2.1, HF.out.2.2⟩
set_option maxRecDepth 100000 in
set_option maxHeartbeats 2000000 in
theorem rplong_any (a b c d : Int) (w : World) (hu : U64s [a, b, c, d]) : Calls Tryz.prog 34 #[longVal a b c d] w (NewB w (flat [d, c, b, a] 8)) := by
  obtain ⟨S, hS⟩ : ∃ S, w.heap.size = S := ⟨_, rfl⟩
  have HS := Lib.hid hS
  have hp := fun w1 => rputlong_any none 0 0 [] a b c d w1 (rd_nil8 w1) (fun _ => rfl) (by omega) (hu a (by simp)) (hu b (by simp)) (hu c (by simp)) (hu d (by simp))
  have hX : longVal a b c d = .agg ([Value.int .u64 a, Value.int .u64 b, Value.int .u64 c, Value.int .u64 d] : List Value).toArray := rfl
  simp only [List.nil_append] at hp
  rw [hX] at hp ⊢
  have hsz : (Tryz.prog.info? 31).map (·.size) = some ([Value.int .u64 a, Value.int .u64 b, Value.int .u64 c, Value.int .u64 d] : List Value).length := size_num
  generalize ([Value.int .u64 a, Value.int .u64 b, Value.int .u64 c, Value.int .u64 d] : List Value) = X at hp hsz ⊢
  generalize flat [d, c, b, a] 8 = B at hp ⊢
  have HP := Lib.hid hp
  have HSZ := Lib.hid hsz
  have HU := Lib.hid Tryz.underlying31
  clear hS hp hX hsz hu
  go_enter Tryz.func34, Tryz.ntmps34
  go_upto_region 0 with fail
  refine wp_region_lit ?_
  refine wpList_boxT (o := ⟨some 1, .box 31 _, _, _, _, _⟩) rfl 31 _ rfl X rfl ?_; intro w1 HK1 HB1
  rw [HS.out] at HK1 ⊢
  go_upto_region 1 with fail
  refine wp_region_lit ?_
  refine wpList_loadT (o := ⟨some 3, .load 31 _, _, _, _, _⟩) rfl 31 _ rfl S rfl 31 X _ HK1.out HU.out rfl HSZ.out ?_
  go_wp2_with fail
  refine (HP.out w1).mono ?_; intro e w2 h2
  obtain ⟨A2, c2, m2, hm2, rfl, hr2, hz2, hc2, hB2⟩ := h2.before HB1.out
  have HF := Lib.hid (And.intro hm2 (And.intro hr2 (And.intro hz2 (And.intro hc2 hB2))))
  clear hm2 hr2 hz2 hc2 hB2 h2
  go_wp2_with fail
  go_ret
  exact ⟨A2, c2, m2, HF.out.1, rfl, HF.out.2.1, HF.out.2.2.1, HF.out.2.2.2.1, HF.out.2.2.2.2⟩
set_option maxRecDepth 100000 in
set_option maxHeartbeats 2000000 in
theorem rpsum_any (bs : List Int) (w : World) (hl : bs.length = 32) (hb : ∀ x ∈ bs, 0 ≤ x ∧ x ≤ 255) : Calls Tryz.prog 36 #[u8V bs] w (NewO w bs) := by
  obtain ⟨S, hS⟩ : ∃ S, w.heap.size = S := ⟨_, rfl⟩
  have HS := Lib.hid hS
  have HSL := Lib.hid (slice_sum S)
  have HBB := Lib.hid hb
  have HL := Lib.hid hl
  unfold u8V
  obtain ⟨X, hX⟩ : ∃ X, bs.map (Value.int .u8) = X := ⟨_, rfl⟩
  rw [hX]
  have HX := Lib.hid hX
  clear hS hb hl hX
  go_enter Tryz.func36, Tryz.ntmps36
  go_upto_region 0 with fail
  refine wp_region_lit ?_
  refine wpList_boxT (o := ⟨some 1, .box 27 _, _, _, _, _⟩) rfl 27 _ rfl X rfl ?_; intro w1 HK1 HB1
  rw [HS.out] at HK1 ⊢
  have HR1 : Hid (Rd w1 .u8 (some ⟨S, 0, none⟩) 32 bs) := Lib.hid (rd_of_blk (by rw [HX.out]; exact HK1.out) HBB.out HL.out (by omega))
  go_upto_region 1 with fail
  refine wp_region_lit ?_
  refine wpList_value (o := ⟨some 3, .slice 27 _ _ _ _, _, _, _, _⟩) (v := .slice (some ⟨S, 0, none⟩) 32 32) (w' := w1) rfl (exec_sliceB rfl (HSL.out w1)) ?_
  go_wp2_with (at_builtin; refine append_bytes w.heap.size rfl _ _ rfl (.slice none 0 0) 0 [] rfl (some ⟨S, 0, none⟩) 32 32 bs rfl HR1.out (fun e => by cases e) (own_nil _ _ _ _) HB1.out.size (by omega) ?_; intro v2 w2 ho2 hg2 hat2; have HB2 := Lib.hid (grown_below HB1.out hg2 (own_nil w1 w.heap.size 5 1) (Nat.le_refl _)); have HO2 : Hid (w2.ownsRow w.heap.size 5 1 v2 32 (bs.map (Value.int .u8))) := Lib.hid (by have := ho2.out; rw [List.nil_append, Nat.zero_add] at this; exact this); clear hg2 hat2 ho2)
  obtain ⟨A, c, rfl, hc, -⟩ := own_slice HO2.out
  go_ret
  exact ⟨A, c, 32, HL.out, rfl, HO2.out, HB2.out⟩
set_option maxRecDepth 100000 in
set_option maxHeartbeats 4000000 in
theorem rpsig_any (a b c d a' b' c' d' : Int) (w : World) (hu : U64s [a, b, c, d]) (hu' : U64s [a', b', c', d']) :
    Calls Tryz.prog 38 #[sigV [a, b, c, d] [a', b', c', d']] w (NewB w (flat [d, c, b, a] 8 ++ flat [d', c', b', a'] 8)) := by
  obtain ⟨S, hS⟩ : ∃ S, w.heap.size = S := ⟨_, rfl⟩
  have HS := Lib.hid hS
  have hp := fun w1 => rputlong_any none 0 0 [] a b c d w1 (rd_nil8 w1) (fun _ => rfl) (by omega) (hu a (by simp)) (hu b (by simp)) (hu c (by simp)) (hu d (by simp))
  have hfl : (flat [d, c, b, a] 8).length = 32 := by simp [flat_length]
  have hp2 := fun w1 A c1 (r : Rd w1 .u8 A 32 (flat [d, c, b, a] 8)) (z : A = none → c1 = 0) => rputlong_any A 32 c1 (flat [d, c, b, a] 8) a' b' c' d' w1 r z (by omega) (hu' a' (by simp)) (hu' b' (by simp)) (hu' c' (by simp)) (hu' d' (by simp))
  have hX1 : longVal a b c d = .agg ([Value.int .u64 a, Value.int .u64 b, Value.int .u64 c, Value.int .u64 d] : List Value).toArray := rfl
  have hX2 : longVal a' b' c' d' = .agg ([Value.int .u64 a', Value.int .u64 b', Value.int .u64 c', Value.int .u64 d'] : List Value).toArray := rfl
  have hXX : sigV [a, b, c, d] [a', b', c', d'] = .agg (([Value.int .u64 a, Value.int .u64 b, Value.int .u64 c, Value.int .u64 d] : List Value) ++ ([Value.int .u64 a', Value.int .u64 b', Value.int .u64 c', Value.int .u64 d'] : List Value)).toArray := rfl
  simp only [List.nil_append] at hp
  rw [hX1] at hp
  rw [hX2] at hp2
  rw [hXX]
  have hsz1 : (Tryz.prog.info? 31).map (·.size) = some ([Value.int .u64 a, Value.int .u64 b, Value.int .u64 c, Value.int .u64 d] : List Value).length := size_num
  have hsz2 : (Tryz.prog.info? 31).map (·.size) = some ([Value.int .u64 a', Value.int .u64 b', Value.int .u64 c', Value.int .u64 d'] : List Value).length := size_num
  have hl4 : ([Value.int .u64 a, Value.int .u64 b, Value.int .u64 c, Value.int .u64 d] : List Value).length = 4 := rfl
  generalize ([Value.int .u64 a, Value.int .u64 b, Value.int .u64 c, Value.int .u64 d] : List Value) = X1 at hp hsz1 hl4 ⊢
  generalize ([Value.int .u64 a', Value.int .u64 b', Value.int .u64 c', Value.int .u64 d'] : List Value) = X2 at hp2 hsz2 ⊢
  obtain ⟨B1, hB1⟩ : ∃ B, flat [d, c, b, a] 8 = B := ⟨_, rfl⟩
  obtain ⟨B2, hB2⟩ : ∃ B, flat [d', c', b', a'] 8 = B := ⟨_, rfl⟩
  rw [hB1] at hp hfl
  simp only [hB1, hB2] at hp2 ⊢
  have HP := Lib.hid hp
  have HP2 := Lib.hid hp2
  have HSZ1 := Lib.hid hsz1
  have HSZ2 := Lib.hid hsz2
  have HFL := Lib.hid hfl
  have HU := Lib.hid Tryz.underlying31
  have HRG : Hid (∀ w1, Blk w1 S 33 (X1 ++ X2) → w1.rangeAt S 0 X1 ∧ w1.rangeAt S 4 X2) := Lib.hid (fun w1 hk => by
    have := range_two hk.range
    rw [hl4, Nat.zero_add] at this
    exact this)
  clear hS hp hp2 hX1 hX2 hXX hsz1 hsz2 hl4 hfl hB1 hB2 hu hu'
  go_enter Tryz.func38, Tryz.ntmps38
  go_upto_region 0 with fail
  refine wp_region_lit ?_
  refine wpList_boxT (o := ⟨some 1, .box 33 _, _, _, _, _⟩) rfl 33 _ rfl (X1 ++ X2) rfl ?_; intro w1 HK1 HB1
  rw [HS.out] at HK1 ⊢
  obtain ⟨a0, a1⟩ := HRG.out w1 HK1.out
  have HB1d := Lib.hid (show Below w.heap.size w w1.drew from ⟨HB1.out.os, HB1.out.tape, HB1.out.output, HB1.out.size, HB1.out.block⟩)
  go_upto_region 1 with fail
  refine wp_region_noPanic ?_
  refine wp_region_held_drew (S := (fun w' => w'.rangeAt S 0 X1 ∧ w'.rangeAt S 4 X2)) (by kernel_rfl) ?_ (fun hHeld => ?_)
  · ((try dsimp only); refine ⟨?_, ?_⟩ <;> (first | assumption | (go_keep; done)))
  refine wpAnyH_take (i := 0) (oi := ⟨some 3, _, _, _, _, _⟩) (v := ?_) rfl (by kernel_rfl) (by kernel_rfl) (by kernel_rfl) (fun _ _ _ h => False.elim h) (Or.inl ⟨by rfl, ?_⟩) (by assumption) ?_
  rotate_left
  · intro w hSw
    (try dsimp only at hSw)
    go_simp
    all_goals with_reducible rfl
  (try simp only [Act.put, List.setIfInBounds_toArray, List.set_cons_zero, List.set_cons_succ])
  refine wpAnyH_take (i := 1) (oi := ⟨some 4, _, _, _, _, _⟩) (v := .agg X1.toArray) rfl (by kernel_rfl) (by kernel_rfl) (by kernel_rfl) (fun _ _ _ h => False.elim h) ?_ (by assumption) ?_
  · refine yieldsIf_load_mid ?_ 31 _ rfl S 0 rfl X1 _ ?_ HU.out rfl HSZ1.out
    · rfl
    · (intro w hSw; (try dsimp only at hSw); go_split_ands; assumption)
  (try simp only [Act.put, List.setIfInBounds_toArray, List.set_cons_zero, List.set_cons_succ])
  refine wpAnyH_take (i := 3) (oi := ⟨some 6, _, _, _, _, _⟩) (v := ?_) rfl (by kernel_rfl) (by kernel_rfl) (by kernel_rfl) (fun _ _ _ h => False.elim h) (Or.inl ⟨by rfl, ?_⟩) (by assumption) ?_
  rotate_left
  · intro w hSw
    (try dsimp only at hSw)
    go_simp
    all_goals with_reducible rfl
  (try simp only [Act.put, List.setIfInBounds_toArray, List.set_cons_zero, List.set_cons_succ])
  refine wpAnyH_take (i := 4) (oi := ⟨some 7, _, _, _, _, _⟩) (v := .agg X2.toArray) rfl (by kernel_rfl) (by kernel_rfl) (by kernel_rfl) (fun _ _ _ h => False.elim h) ?_ (by assumption) ?_
  · refine yieldsIf_load_mid ?_ 31 _ rfl S 4 rfl X2 _ ?_ HU.out rfl HSZ2.out
    · rfl
    · (intro w hSw; (try dsimp only at hSw); go_split_ands; assumption)
  (try simp only [Act.put, List.setIfInBounds_toArray, List.set_cons_zero, List.set_cons_succ])
  refine wpAnyH_ready (rs := [2]) (by kernel_rfl) (by simp) ?_
  refine AllReadyH.cons (o := ⟨some 5, _, _, _, _, _⟩) rfl (fun K hK => ?_) AllReadyH.nil
  go_simp
  (refine (HP.out _).mono ?_; rintro e w2 ⟨A1, c1, m1, hm1, rfl, hr1, hz1, hc1, hB2⟩; have HK2 : Hid (Blk w2 S 33 (X1 ++ X2)) := Lib.hid (HK1.out.drew.below hB2 HK1.out.drew.lt); obtain ⟨b0, b1⟩ := HRG.out w2 HK2.out; have HB2 := Lib.hid (HB1d.out.trans (hB2.mono HB1d.out.size)); rw [HFL.out] at hm1; subst hm1; have HQ2 := Lib.hid (HP2.out w2 A1 c1 hr1 hz1); clear hB2 hr1 hz1 hc1)
  (try go_wp2_with fail)
  refine hK.out _ _ ?_ (fun hHeld => ?_)
  · ((try dsimp only); refine ⟨?_, ?_⟩ <;> (first | assumption | (go_keep; done)))
  clear hK K
  (try simp only [Act.put, List.setIfInBounds_toArray, List.set_cons_zero, List.set_cons_succ])
  refine wpAnyH_ready (rs := [5]) (by kernel_rfl) (by simp) ?_
  refine AllReadyH.cons (o := ⟨some 8, _, _, _, _, _⟩) rfl (fun K hK => ?_) AllReadyH.nil
  go_simp
  (refine HQ2.out.mono ?_; intro e w3 h3; obtain ⟨A2, c2, m2, hm2, rfl, hr2, hz2, hc2, hB3⟩ := h3; have HK3 : Hid (Blk w3 S 33 (X1 ++ X2)) := Lib.hid (HK2.out.below hB3 HK2.out.lt); obtain ⟨d0, d1⟩ := HRG.out w3 HK3.out; have HF3 := Lib.hid (And.intro hm2 (And.intro hr2 (And.intro hz2 (And.intro hc2 (HB2.out.trans (hB3.mono HB2.out.size)))))); clear hB3 hr2 hz2 hc2 hm2)
  (try go_wp2_with fail)
  refine hK.out _ _ ?_ (fun hHeld => ?_)
  · ((try dsimp only); refine ⟨?_, ?_⟩ <;> (first | assumption | (go_keep; done)))
  clear hK K
  (try simp only [Act.put, List.setIfInBounds_toArray, List.set_cons_zero, List.set_cons_succ])
  refine wpAnyH_take (i := 6) (oi := ⟨some 2, _, _, _, _, _⟩) (v := ?_) rfl (by kernel_rfl) (by kernel_rfl) (by kernel_rfl) (fun _ _ _ h => False.elim h) (Or.inl ⟨by rfl, ?_⟩) (by assumption) ?_
  rotate_left
  · intro w hSw
    (try dsimp only at hSw)
    go_simp
    all_goals with_reducible rfl
  (try simp only [Act.put, List.setIfInBounds_toArray, List.set_cons_zero, List.set_cons_succ])
  refine wpAnyH_done (by kernel_rfl) ?_ _
  refine NoPanic.normal ?_
  go_wp2_with fail
  go_ret
  exact ⟨A2, c2, m2, HF3.out.1, rfl, HF3.out.2.1, HF3.out.2.2.1, HF3.out.2.2.2.1, HF3.out.2.2.2.2⟩
set_option maxRecDepth 100000 in
set_option maxHeartbeats 4000000 in
theorem rppuz_any (x y : Int) (bs : List Int) (w : World) (hx : 0 ≤ x ∧ x ≤ 255) (hy : 0 ≤ y ∧ y ≤ 18446744073709551615) (hl : bs.length = 32) (hb : ∀ u ∈ bs, 0 ≤ u ∧ u ≤ 255) :
    Calls Tryz.prog 30 #[.agg (puzP x y bs).toArray] w (NewO w ([x] ++ be y 8 ++ bs)) := by
  obtain ⟨S, hS⟩ : ∃ S, w.heap.size = S := ⟨_, rfl⟩
  have HS := Lib.hid hS
  have HSL := Lib.hid (slice_sum2 S)
  have e8 : putMany 8 = 8 := by decide
  have hp := fun w1 g (r : Rd w1 .u8 (some ⟨g, 0, none⟩) 1 [x]) => rput_own (some ⟨g, 0, none⟩) 1 1 [x] y 8 w1 r (fun e => by cases e) (by omega) hy.1 hy.2
  rw [e8] at hp
  have hcells : ∀ w1, Blk w1 S 29 (puzP x y bs) → w1.cell? ⟨S, 0, none⟩ = some (.int .u8 x) ∧ w1.cell? ⟨S, 1, none⟩ = some (.int .u64 y) ∧ Rd w1 .u8 (some ⟨S, 2, none⟩) 32 bs := fun w1 hk => by
    refine ⟨by rw [hk.cell]; rfl, by rw [hk.cell]; rfl, hl, by omega, bytes_wf hb, fun _ => ⟨S, 2, rfl, hk.lt, fun j hj => ?_⟩⟩
    rw [hk.cell, puzP, List.getElem?_append_right (by simp)]
    simp [List.getElem?_eq_getElem (show j < bs.length by omega)]
  have h9 : ([x] ++ be y 8).length = 9 := by simp [be_length]
  have hT : ([x] ++ be y 8 ++ bs).length = 41 := by simp [be_length, hl]
  generalize puzP x y bs = X at hcells ⊢
  have HP := Lib.hid hp
  have HCE := Lib.hid hcells
  have HX := Lib.hid hx
  have H9 := Lib.hid h9
  have HT := Lib.hid hT
  clear hS e8 hp hcells hx hy hl hb h9 hT
  go_enter Tryz.func30, Tryz.ntmps30
  go_upto_region 0 with fail
  refine wp_region_lit ?_
  refine wpList_boxT (o := ⟨some 1, .box 29 _, _, _, _, _⟩) rfl 29 _ rfl X rfl ?_; intro w1 HK1 HB1
  rw [HS.out] at HK1 ⊢
  obtain ⟨a0, a1, -⟩ := HCE.out w1 HK1.out
  have hkb : Blk (w1.alloc (.cells #[.int .u8 x] 5)) S 29 X := HK1.out.alloc _
  have hgb : Blk (w1.alloc (.cells #[.int .u8 x] 5)) w1.heap.size 5 [.int .u8 x] := Blk.new w1 5 [.int .u8 x]
  have HBb : Hid (Below w.heap.size w (w1.alloc (.cells #[.int .u8 x] 5))) := Lib.hid (HB1.out.alloc HB1.out.size _)
  have HKb := Lib.hid hkb
  have HRb : Hid (Rd (w1.alloc (.cells #[.int .u8 x] 5)) .u8 (some ⟨w1.heap.size, 0, none⟩) 1 [x]) := Lib.hid (rd_of_blk hgb (fun u hu => by simp at hu; rw [hu]; exact HX.out) rfl (by omega))
  obtain ⟨b0, b1, -⟩ := HCE.out _ hkb
  clear hkb hgb
  go_wp2_with fail
  refine (HP.out _ _ HRb.out).mono ?_; intro e w2 h2
  have HK2 : Hid (Blk w2 S 29 X) := Lib.hid (by obtain ⟨_, _, _, _, _, _, hB⟩ := h2; exact HKb.out.below hB HKb.out.lt)
  obtain ⟨A2, c2, m2, hm2, rfl, ho2, hB2⟩ := h2.before HBb.out
  rw [H9.out] at hm2
  subst hm2
  have HO2 := Lib.hid ho2
  have HB2 := Lib.hid hB2
  obtain ⟨-, -, cr⟩ := HCE.out w2 HK2.out
  have HR2 := Lib.hid cr
  clear ho2 hB2 cr h2
  go_upto_region 2 with fail
  refine wp_region_lit ?_
  go_wp2_with (first
    | ((with_reducible refine wpList_isB (o := ⟨some 12, .slice _ _ _ _ _, _, _, _, _⟩) ?_); refine wpList_value (o := ⟨some 12, .slice 27 _ _ _ _, _, _, _, _⟩) (v := .slice (some ⟨S, 2, none⟩) 32 32) (w' := w2) rfl (exec_sliceB rfl (HSL.out w2)) ?_)
    | (at_builtin; refine append_bytes w.heap.size rfl _ _ rfl (.slice A2 9 c2) 9 ([x] ++ be y 8) rfl (some ⟨S, 2, none⟩) 32 32 bs rfl HR2.out (fun e => by cases e) HO2.out HB2.out.size (by omega) ?_; intro v3 w3 ho3 hg3 hat3; have HB3 := Lib.hid (grown_below HB2.out hg3 HO2.out (Nat.le_refl _)); have HO3 : Hid (w3.ownsRow w.heap.size 5 1 v3 41 (([x] ++ be y 8 ++ bs).map (Value.int .u8))) := Lib.hid ho3.out; clear hg3 hat3 ho3))
  obtain ⟨A3, c3, rfl, hc3, -⟩ := own_slice HO3.out
  go_ret
  exact ⟨A3, c3, 41, HT.out, rfl, HO3.out, HB3.out⟩
set_option maxRecDepth 100000 in
set_option maxHeartbeats 4000000 in
theorem rpsol_any (x y : Int) (bs cs : List Int) (w : World) (hx : 0 ≤ x ∧ x ≤ 255) (hy : 0 ≤ y ∧ y ≤ 18446744073709551615) (hl : bs.length = 32) (hb : ∀ u ∈ bs, 0 ≤ u ∧ u ≤ 255) (hl2 : cs.length = 32) (hb2 : ∀ u ∈ cs, 0 ≤ u ∧ u ≤ 255) :
    Calls Tryz.prog 28 #[.agg (puzP x y bs).toArray, u8V cs] w (NewO w ([x] ++ be y 8 ++ bs ++ cs)) := by
  obtain ⟨S, hS⟩ : ∃ S, w.heap.size = S := ⟨_, rfl⟩
  have HS := Lib.hid hS
  have hp := fun w1 => rppuz_any x y bs w1 hx hy hl hb
  have hlp : (puzP x y bs).length = 34 := by simp [puzP, hl]
  have hsz : (Tryz.prog.info? 29).map (·.size) = some (puzP x y bs).length := by rw [hlp]; exact size_puz
  have hTB : ([x] ++ be y 8 ++ bs).length = 41 := by simp [be_length, hl]
  have hT : ([x] ++ be y 8 ++ bs ++ cs).length = 73 := by simp [be_length, hl, hl2]
  generalize puzP x y bs = X at hp hsz ⊢
  generalize [x] ++ be y 8 ++ bs = B at hp hTB hT ⊢
  unfold u8V
  obtain ⟨Y, hY⟩ : ∃ Y, cs.map (Value.int .u8) = Y := ⟨_, rfl⟩
  rw [hY]
  have HY := Lib.hid hY
  have HP := Lib.hid hp
  have HSZ := Lib.hid hsz
  have HU := Lib.hid Tryz.underlying29
  have HL2 := Lib.hid hl2
  have HB2 := Lib.hid hb2
  have HTB := Lib.hid hTB
  have HTT := Lib.hid hT
  clear hS hp hlp hsz hY hx hy hl hb hl2 hb2 hTB hT
  go_enter Tryz.func28, Tryz.ntmps28
  go_upto_region 0 with fail
  refine wp_region_lit ?_
  refine wpList_boxT (o := ⟨some 2, .box 29 _, _, _, _, _⟩) rfl 29 _ rfl X rfl ?_; intro w1 HK1 HB1
  rw [HS.out] at HK1 ⊢
  obtain ⟨T, hT⟩ : ∃ T, w1.heap.size = T := ⟨_, rfl⟩
  have HT := Lib.hid hT
  clear hT
  refine wpList_boxT (o := ⟨some 3, .box 27 _, _, _, _, _⟩) rfl 27 _ rfl Y rfl ?_; intro w2 HK2 HBB2
  rw [HT.out] at HK2 ⊢
  have HKS : Hid (Blk w2 S 29 X) := Lib.hid (HK1.out.below HBB2.out HK1.out.lt)
  have HB2w := Lib.hid (HB1.out.trans (HBB2.out.mono HB1.out.size))
  have HB2d := Lib.hid (show Below w.heap.size w w2.drew from ⟨HB2w.out.os, HB2w.out.tape, HB2w.out.output, HB2w.out.size, HB2w.out.block⟩)
  have HR2 : Hid (Rd w2.drew .u8 (some ⟨T, 0, none⟩) 32 cs) := Lib.hid (rd_of_blk (by rw [HY.out]; exact HK2.out.drew) HB2.out HL2.out (by omega))
  have HSL := Lib.hid (slice_sum T)
  have a0 : w2.rangeAt S 0 X := HKS.out.range
  go_upto_region 1 with fail
  refine wp_region_noPanic ?_
  refine wp_region_held_drew (S := (fun w' => w'.rangeAt S 0 X)) (by kernel_rfl) ?_ (fun hHeld => ?_)
  · ((try dsimp only) <;> (first | assumption | (go_keep; done)))
  refine wpAnyH_take (i := 0) (oi := ⟨some 5, _, _, _, _, _⟩) (v := .agg X.toArray) rfl (by kernel_rfl) (by kernel_rfl) (by kernel_rfl) (fun _ _ _ h => False.elim h) ?_ (by assumption) ?_
  · refine yieldsIf_load_mid ?_ 29 _ rfl S 0 rfl X _ ?_ HU.out rfl HSZ.out
    · rfl
    · (intro w hSw; (try dsimp only at hSw); go_split_ands; assumption)
  (try simp only [Act.put, List.setIfInBounds_toArray, List.set_cons_zero, List.set_cons_succ])
  refine wpAnyH_take (i := 2) (oi := ⟨some 7, _, _, _, _, _⟩) (v := .slice (some ⟨T, 0, none⟩) 32 32) rfl (by kernel_rfl) (by kernel_rfl) (by kernel_rfl) (fun _ _ _ h => False.elim h) ?_ (by assumption) ?_
  · exact yieldsIf_sliceA (by rfl) 27 _ _ _ _ rfl _ (fun W => by simpa [Act.eval, Act.put] using HSL.out W)
  (try simp only [Act.put, List.setIfInBounds_toArray, List.set_cons_zero, List.set_cons_succ])
  refine wpAnyH_ready (rs := [1]) (by kernel_rfl) (by simp) ?_
  refine AllReadyH.cons (o := ⟨some 6, _, _, _, _, _⟩) rfl (fun K hK => ?_) AllReadyH.nil
  go_simp
  (refine (HP.out _).mono ?_; rintro e w3 h3; have hB3 := (by obtain ⟨_, _, _, _, _, _, hB⟩ := h3; exact hB : Below w2.drew.heap.size w2.drew w3); have HS3 : Hid (Blk w3 S 29 X) := Lib.hid (HKS.out.drew.below hB3 HKS.out.drew.lt); have HR3 := Lib.hid (HR2.out.below hB3); obtain ⟨A3, c3, m3, hm3, rfl, ho3, hB3'⟩ := h3.before HB2d.out; rw [HTB.out] at hm3; subst hm3; have HO3 := Lib.hid ho3; have HB3 := Lib.hid hB3'; have a1 : w3.rangeAt S 0 X := HS3.out.range; clear hB3 ho3 hB3' h3)
  (try go_wp2_with fail)
  refine hK.out _ _ ?_ (fun hHeld => ?_)
  · ((try dsimp only) <;> (first | assumption | (go_keep; done)))
  clear hK K
  (try simp only [Act.put, List.setIfInBounds_toArray, List.set_cons_zero, List.set_cons_succ])
  refine wpAnyH_ready (rs := [3]) (by kernel_rfl) (by simp) ?_
  refine AllReadyH.cons (o := ⟨some 8, _, _, _, _, _⟩) rfl (fun K hK => ?_) AllReadyH.nil
  (refine step_append_bytes w.heap.size rfl _ _ rfl (.slice A3 41 c3) 41 B (by simp [Act.eval, Act.put]) (some ⟨T, 0, none⟩) 32 32 cs (by simp [Act.eval, Act.put]) HR3.out (fun e => by cases e) HO3.out HB3.out.size (by omega) ?_; intro v4 w4 HO4 hg4 hat4; have HB4 := Lib.hid (grown_below HB3.out hg4 HO3.out (Nat.le_refl _)); have HR4 : Hid (w4.ownsRow w.heap.size 5 1 v4 73 ((B ++ cs).map (Value.int .u8))) := HO4; have a2 : w4.rangeAt S 0 X := (HS3.out.keep (Keeps.grown (M := fun i => (Value.slice A3 41 c3).ownBlock = some i) (Keeps.refl _ w3) hg4 (fun k hk => .inl hk)) (own_blk_ne HO3.out HS3.out (by decide))).range; obtain ⟨A4, c4, rfl, hc4, -⟩ := own_slice HO4.out; clear hat4 hg4)
  refine hK.out _ _ ?_ (fun hHeld => ?_)
  · ((try dsimp only) <;> (first | assumption | (go_keep; done)))
  clear hK K
  (try simp only [Act.put, List.setIfInBounds_toArray, List.set_cons_zero, List.set_cons_succ])
  refine wpAnyH_take (i := 4) (oi := ⟨some 4, _, _, _, _, _⟩) (v := ?_) rfl (by kernel_rfl) (by kernel_rfl) (by kernel_rfl) (fun _ _ _ h => False.elim h) (Or.inl ⟨by rfl, ?_⟩) (by assumption) ?_
  rotate_left
  · intro w hSw
    (try dsimp only at hSw)
    go_simp
    all_goals with_reducible rfl
  (try simp only [Act.put, List.setIfInBounds_toArray, List.set_cons_zero, List.set_cons_succ])
  refine wpAnyH_done (by kernel_rfl) ?_ _
  refine NoPanic.normal ?_
  go_wp2_with fail
  go_ret
  exact ⟨A4, c4, 73, HTT.out, rfl, HR4.out, HB4.out⟩
end Go.Proofs.YtgecfcdafbedaaaGreat

namespace Go.Proofs.YtgecfcdafbedaaaGreat
open Go.RowKit Go.Shelf
set_option linter.unusedSimpArgs false
set_option linter.unusedVariables false

/-- What the document's PutSpots answers. -/
def RSpPut (w : World) (n : Nat) (xs : List Int) (e : Ending) (w' : World) : Prop :=
  ((SpOk n (atL xs) ∧ ∃ A c, e = .returned (.tuple #[.slice A (1 + 4 * n) c, .int .i64 0]) ∧ Rd w' .u8 A (1 + 4 * n) (spPre n (atL xs) n) ∧ (A = none → c = 0) ∧ 1 + 4 * n ≤ c)
    ∨ (¬ SpOk n (atL xs) ∧ e = .returned (.tuple #[.slice none 0 0, .int .i64 1]))) ∧ Below w.heap.size w w'
set_option maxRecDepth 100000 in
set_option maxHeartbeats 4000000 in
theorem rputspots_any (A : Option Addr) (n c : Nat) (xs : List Int) (w : World) (r : Rd w .u32 A n xs) :
    Calls Tryz.prog 23 #[.slice A n c] w (RSpPut w n xs) := by
  have hbig := r.big
  have HR := Lib.hid r
  have HB : Hid (Below w.heap.size w w) := Lib.hid (Below.refl _ _)
  clear r
  by_cases hn0 : n = 0
  · subst hn0
    have HNO : Hid (¬ SpOk 0 (atL xs)) := Lib.hid (fun h => by have := h.1; omega)
    go_enter Tryz.func23, Tryz.ntmps23
    go_wp2_with fail
    go_ret2
    exact ⟨.inr ⟨HNO.out, rfl⟩, HB.out⟩
  · by_cases hn4 : 4 < n
    · have HNO : Hid (¬ SpOk n (atL xs)) := Lib.hid (fun h => by have := h.2.1; omega)
      have f1 : ((n : Int) < 1) = False := eq_false (by omega)
      have f2 : ((4 : Int) < (n : Int)) = True := eq_true (by omega)
      clear hn0 hn4
      go_enter Tryz.func23, Tryz.ntmps23
      go_wp2_with fail
      go_ret2
      exact ⟨.inr ⟨HNO.out, rfl⟩, HB.out⟩
    · have f1 : ((n : Int) < 1) = False := eq_false (by omega)
      have f2 : ((4 : Int) < (n : Int)) = False := eq_false (by omega)
      obtain ⟨b, off, rfl, hbl, hcell⟩ := HR.out.row (by omega)
      have HBL := Lib.hid hbl
      have HCL : Hid (∀ W, Below w.heap.size w W → ∀ j, j < n → W.cell? ⟨b, off + j, none⟩ = some (.int .u32 (atL xs j))) := Lib.hid (fun W hW j hj => (hW.cell (p := ⟨b, off + j, none⟩) hbl).trans (hcell j hj))
      have HBD : Hid (∀ j, j < n → 0 ≤ atL xs j ∧ atL xs j ≤ 4294967295) := Lib.hid (fun j hj => wf_u32 (HR.out.mem hj))
      have hn14 : 1 ≤ n ∧ n ≤ 4 := by omega
      have hw8 : IntKind.u8.wrap (n : Int) = (n : Int) := IntWalk.u8_in _ (by omega)
      have HB3 : Hid (Below w.heap.size w (w.alloc (.cells #[.int .u8 (n : Int)] 5))) := Lib.hid (HB.out.alloc HB.out.size _)
      have HK3 : Hid (Blk (w.alloc (.cells #[.int .u8 (n : Int)] 5)) w.heap.size 5 ((spPre n (atL xs) 0).map (Value.int .u8))) := Lib.hid (Blk.new w 5 [.int .u8 (n : Int)])
      have HST : Hid (Rd (w.alloc (.cells #[.int .u8 (n : Int)] 5)) .u8 (some ⟨w.heap.size, 0, none⟩) 1 (spPre n (atL xs) 0)) := Lib.hid (rd_of_blk HK3.out (spPre_byte n _ (by omega) 0) (spPre_length ..) (by omega))
      clear hbl hcell hn0 hn4 HK3
      go_enter Tryz.func23, Tryz.ntmps23
      go_wp2_with fail
      go_loopw [4, 5] (fun v i wr => ∃ (k : Nat) (A' : Option Addr) (c' : Nat), k ≤ n ∧ i = .int .i64 (k : Int) ∧ v = .slice A' (1 + 4 * k) c' ∧ Rd wr .u8 A' (1 + 4 * k) (spPre n (atL xs) k) ∧ (A' = none → c' = 0) ∧ 1 + 4 * k ≤ c' ∧ (∀ j, j < k → atL xs j ≠ 0) ∧ (∀ i j, i < j → j < k → atL xs i ≠ atL xs j) ∧ Below w.heap.size w wr) (fun _ i _ => n - (intOf i).toNat)
      case atStart => exact ⟨0, _, 1, Nat.zero_le _, rfl, rfl, HST.out, (fun h => by cases h), Nat.le_refl _, (fun j hj => by omega), (fun i j _ hj => by omega), HB3.out⟩
      case round =>
        clear HST HB3 HB
        obtain ⟨k, A', c', hk, rfl, rfl, hr, hz, hc, hnz, hun, hB⟩ := hrel
        have HRK := Lib.hid hr
        have HZ := Lib.hid hz
        have HC := Lib.hid hc
        have HNZ := Lib.hid hnz
        have HUN := Lib.hid hun
        have HB1 := Lib.hid hB
        clear hr hz hnz hun hB hc
        by_cases hlt : k < n
        · obtain ⟨x, hx⟩ : ∃ x, atL xs k = x := ⟨_, rfl⟩
          have HX := Lib.hid hx
          obtain ⟨hx0, hx1⟩ : 0 ≤ x ∧ x ≤ 4294967295 := by rw [← hx]; exact HBD.out k hlt
          have HCX : Hid (∀ W, Below w.heap.size w W → W.cell? ⟨b, off + k, none⟩ = some (.int .u32 x)) := Lib.hid (fun W hW => by rw [HCL.out W hW k hlt, HX.out])
          have i0 : (0 : Int) ≤ (k : Int) := by omega
          have i1 : (k : Int) < (n : Int) := by omega
          obtain ⟨w1, hw1⟩ : ∃ w1 : World, w1 = wr := ⟨_, rfl⟩
          subst hw1
          clear hx
          go_wp2_with fail
          go_loopw [6] (fun i wr => ∃ j : Nat, j ≤ k ∧ i = .int .i64 (j : Int) ∧ (∀ i, i < j → atL xs i ≠ x) ∧ Below w1.heap.size w1 wr) (fun i _ => k - (intOf i).toNat)
          case atStart => exact ⟨0, Nat.zero_le _, rfl, (fun i hi => by omega), Below.refl _ _⟩
          case round =>
            obtain ⟨j, hj, rfl, hne, hB2⟩ := hrel
            have HNE := Lib.hid hne
            have HB2 := Lib.hid hB2
            have HBT := Lib.hid (HB1.out.trans (hB2.mono HB1.out.size))
            clear hne hB2
            have cx := HCX.out wr HBT.out
            by_cases hjk : j < k
            · obtain ⟨y, hy⟩ : ∃ y, atL xs j = y := ⟨_, rfl⟩
              have HY := Lib.hid hy
              have cy : wr.cell? ⟨b, off + j, none⟩ = some (.int .u32 y) := by rw [HCL.out wr HBT.out j (by omega), hy]
              have j0 : (0 : Int) ≤ (j : Int) := by omega
              have j1 : (j : Int) < (n : Int) := by omega
              have j2 : (j : Int) < (k : Int) := by omega
              clear hy
              by_cases hxy : y = x
              · have HNO : Hid (¬ SpOk n (atL xs)) := Lib.hid (fun h => h.2.2.2 j k hjk hlt (by rw [HY.out, HX.out]; exact hxy))
                have g1 : (y == x) = true := beq_iff_eq.2 hxy
                have HB : Hid (Below w.heap.size w wr.drew) := Lib.hid HBT.out.drew
                clear hxy
                go_upto_region 10 with fail
                refine wp_region_noPanic ?_
                refine wp_region_held_drew (S := (fun w' => w'.cell? ⟨b, off + j, none⟩ = some (.int .u32 y) ∧ w'.cell? ⟨b, off + k, none⟩ = some (.int .u32 x))) (by kernel_rfl) ?_ (fun hHeld => ?_)
                · ((try dsimp only); refine ⟨?_, ?_⟩ <;> (first | assumption | (go_keep; done)))
                refine wpAnyH_take (i := 0) (oi := ⟨some 30, _, _, _, _, _⟩) (v := ?_) rfl (by kernel_rfl) (by kernel_rfl) (by kernel_rfl) (fun _ _ _ h => False.elim h) (Or.inl ⟨by rfl, ?_⟩) (by assumption) ?_
                rotate_left
                · intro w hSw
                  (try dsimp only at hSw)
                  go_simp
                  all_goals with_reducible rfl
                (try simp only [Act.put, List.setIfInBounds_toArray, List.set_cons_zero, List.set_cons_succ])
                refine wpAnyH_take (i := 1) (oi := ⟨some 31, _, _, _, _, _⟩) (v := ?_) rfl (by kernel_rfl) (by kernel_rfl) (by kernel_rfl) (fun _ _ _ h => False.elim h) (Or.inl ⟨by rfl, ?_⟩) (by assumption) ?_
                rotate_left
                · intro w hSw
                  (try dsimp only at hSw)
                  go_simp
                  all_goals with_reducible rfl
                (try simp only [Act.put, List.setIfInBounds_toArray, List.set_cons_zero, List.set_cons_succ])
                refine wpAnyH_take (i := 2) (oi := ⟨some 32, _, _, _, _, _⟩) (v := ?_) rfl (by kernel_rfl) (by kernel_rfl) (by kernel_rfl) (fun _ _ _ h => False.elim h) (Or.inl ⟨by rfl, ?_⟩) (by assumption) ?_
                rotate_left
                · intro w hSw
                  (try dsimp only at hSw)
                  go_simp
                  all_goals with_reducible rfl
                (try simp only [Act.put, List.setIfInBounds_toArray, List.set_cons_zero, List.set_cons_succ])
                refine wpAnyH_take (i := 3) (oi := ⟨some 33, _, _, _, _, _⟩) (v := ?_) rfl (by kernel_rfl) (by kernel_rfl) (by kernel_rfl) (fun _ _ _ h => False.elim h) (Or.inl ⟨by rfl, ?_⟩) (by assumption) ?_
                rotate_left
                · intro w hSw
                  (try dsimp only at hSw)
                  go_simp
                  all_goals with_reducible rfl
                (try simp only [Act.put, List.setIfInBounds_toArray, List.set_cons_zero, List.set_cons_succ])
                refine wpAnyH_take (i := 4) (oi := ⟨some 34, _, _, _, _, _⟩) (v := ?_) rfl (by kernel_rfl) (by kernel_rfl) (by kernel_rfl) (fun _ _ _ h => False.elim h) (Or.inl ⟨by rfl, ?_⟩) (by assumption) ?_
                rotate_left
                · intro w hSw
                  (try dsimp only at hSw)
                  go_simp
                  all_goals with_reducible rfl
                (try simp only [Act.put, List.setIfInBounds_toArray, List.set_cons_zero, List.set_cons_succ])
                refine wpAnyH_take (i := 5) (oi := ⟨some 35, _, _, _, _, _⟩) (v := ?_) rfl (by kernel_rfl) (by kernel_rfl) (by kernel_rfl) (fun _ _ _ h => False.elim h) (Or.inl ⟨by rfl, ?_⟩) (by assumption) ?_
                rotate_left
                · intro w hSw
                  (try dsimp only at hSw)
                  go_simp
                  all_goals with_reducible rfl
                (try simp only [Act.put, List.setIfInBounds_toArray, List.set_cons_zero, List.set_cons_succ])
                refine wpAnyH_take (i := 6) (oi := ⟨some 36, _, _, _, _, _⟩) (v := ?_) rfl (by kernel_rfl) (by kernel_rfl) (by kernel_rfl) (fun _ _ _ h => False.elim h) (Or.inl ⟨by rfl, ?_⟩) (by assumption) ?_
                rotate_left
                · intro w hSw
                  (try dsimp only at hSw)
                  go_simp
                  all_goals with_reducible rfl
                (try simp only [Act.put, List.setIfInBounds_toArray, List.set_cons_zero, List.set_cons_succ])
                refine wpAnyH_take (i := 7) (oi := ⟨some 37, _, _, _, _, _⟩) (v := ?_) rfl (by kernel_rfl) (by kernel_rfl) (by kernel_rfl) (fun _ _ _ h => False.elim h) (Or.inl ⟨by rfl, ?_⟩) (by assumption) ?_
                rotate_left
                · intro w hSw
                  (try dsimp only at hSw)
                  go_simp
                  all_goals with_reducible rfl
                (try simp only [Act.put, List.setIfInBounds_toArray, List.set_cons_zero, List.set_cons_succ])
                refine wpAnyH_take (i := 8) (oi := ⟨some 38, _, _, _, _, _⟩) (v := ?_) rfl (by kernel_rfl) (by kernel_rfl) (by kernel_rfl) (fun _ _ _ h => False.elim h) (Or.inl ⟨by rfl, ?_⟩) (by assumption) ?_
                rotate_left
                · intro w hSw
                  (try dsimp only at hSw)
                  go_simp
                  all_goals with_reducible rfl
                (try simp only [Act.put, List.setIfInBounds_toArray, List.set_cons_zero, List.set_cons_succ])
                refine wpAnyH_done (by kernel_rfl) ?_ _
                refine NoPanic.normal ?_
                go_wp2_with fail
                go_ret2
                exact ⟨.inr ⟨HNO.out, rfl⟩, HB.out⟩
              · have g1 : (y == x) = false := beq_eq_false_iff_ne.2 hxy
                have HXY := Lib.hid hxy
                clear hxy
                go_upto_region 10 with fail
                refine wp_region_noPanic ?_
                refine wp_region_held_drew (S := (fun w' => w'.cell? ⟨b, off + j, none⟩ = some (.int .u32 y) ∧ w'.cell? ⟨b, off + k, none⟩ = some (.int .u32 x))) (by kernel_rfl) ?_ (fun hHeld => ?_)
                · ((try dsimp only); refine ⟨?_, ?_⟩ <;> (first | assumption | (go_keep; done)))
                refine wpAnyH_take (i := 0) (oi := ⟨some 30, _, _, _, _, _⟩) (v := ?_) rfl (by kernel_rfl) (by kernel_rfl) (by kernel_rfl) (fun _ _ _ h => False.elim h) (Or.inl ⟨by rfl, ?_⟩) (by assumption) ?_
                rotate_left
                · intro w hSw
                  (try dsimp only at hSw)
                  go_simp
                  all_goals with_reducible rfl
                (try simp only [Act.put, List.setIfInBounds_toArray, List.set_cons_zero, List.set_cons_succ])
                refine wpAnyH_take (i := 1) (oi := ⟨some 31, _, _, _, _, _⟩) (v := ?_) rfl (by kernel_rfl) (by kernel_rfl) (by kernel_rfl) (fun _ _ _ h => False.elim h) (Or.inl ⟨by rfl, ?_⟩) (by assumption) ?_
                rotate_left
                · intro w hSw
                  (try dsimp only at hSw)
                  go_simp
                  all_goals with_reducible rfl
                (try simp only [Act.put, List.setIfInBounds_toArray, List.set_cons_zero, List.set_cons_succ])
                refine wpAnyH_take (i := 2) (oi := ⟨some 32, _, _, _, _, _⟩) (v := ?_) rfl (by kernel_rfl) (by kernel_rfl) (by kernel_rfl) (fun _ _ _ h => False.elim h) (Or.inl ⟨by rfl, ?_⟩) (by assumption) ?_
                rotate_left
                · intro w hSw
                  (try dsimp only at hSw)
                  go_simp
                  all_goals with_reducible rfl
                (try simp only [Act.put, List.setIfInBounds_toArray, List.set_cons_zero, List.set_cons_succ])
                refine wpAnyH_take (i := 3) (oi := ⟨some 33, _, _, _, _, _⟩) (v := ?_) rfl (by kernel_rfl) (by kernel_rfl) (by kernel_rfl) (fun _ _ _ h => False.elim h) (Or.inl ⟨by rfl, ?_⟩) (by assumption) ?_
                rotate_left
                · intro w hSw
                  (try dsimp only at hSw)
                  go_simp
                  all_goals with_reducible rfl
                (try simp only [Act.put, List.setIfInBounds_toArray, List.set_cons_zero, List.set_cons_succ])
                refine wpAnyH_take (i := 4) (oi := ⟨some 34, _, _, _, _, _⟩) (v := ?_) rfl (by kernel_rfl) (by kernel_rfl) (by kernel_rfl) (fun _ _ _ h => False.elim h) (Or.inl ⟨by rfl, ?_⟩) (by assumption) ?_
                rotate_left
                · intro w hSw
                  (try dsimp only at hSw)
                  go_simp
                  all_goals with_reducible rfl
                (try simp only [Act.put, List.setIfInBounds_toArray, List.set_cons_zero, List.set_cons_succ])
                refine wpAnyH_take (i := 5) (oi := ⟨some 35, _, _, _, _, _⟩) (v := ?_) rfl (by kernel_rfl) (by kernel_rfl) (by kernel_rfl) (fun _ _ _ h => False.elim h) (Or.inl ⟨by rfl, ?_⟩) (by assumption) ?_
                rotate_left
                · intro w hSw
                  (try dsimp only at hSw)
                  go_simp
                  all_goals with_reducible rfl
                (try simp only [Act.put, List.setIfInBounds_toArray, List.set_cons_zero, List.set_cons_succ])
                refine wpAnyH_take (i := 6) (oi := ⟨some 36, _, _, _, _, _⟩) (v := ?_) rfl (by kernel_rfl) (by kernel_rfl) (by kernel_rfl) (fun _ _ _ h => False.elim h) (Or.inl ⟨by rfl, ?_⟩) (by assumption) ?_
                rotate_left
                · intro w hSw
                  (try dsimp only at hSw)
                  go_simp
                  all_goals with_reducible rfl
                (try simp only [Act.put, List.setIfInBounds_toArray, List.set_cons_zero, List.set_cons_succ])
                refine wpAnyH_take (i := 7) (oi := ⟨some 37, _, _, _, _, _⟩) (v := ?_) rfl (by kernel_rfl) (by kernel_rfl) (by kernel_rfl) (fun _ _ _ h => False.elim h) (Or.inl ⟨by rfl, ?_⟩) (by assumption) ?_
                rotate_left
                · intro w hSw
                  (try dsimp only at hSw)
                  go_simp
                  all_goals with_reducible rfl
                (try simp only [Act.put, List.setIfInBounds_toArray, List.set_cons_zero, List.set_cons_succ])
                refine wpAnyH_take (i := 8) (oi := ⟨some 38, _, _, _, _, _⟩) (v := ?_) rfl (by kernel_rfl) (by kernel_rfl) (by kernel_rfl) (fun _ _ _ h => False.elim h) (Or.inl ⟨by rfl, ?_⟩) (by assumption) ?_
                rotate_left
                · intro w hSw
                  (try dsimp only at hSw)
                  go_simp
                  all_goals with_reducible rfl
                (try simp only [Act.put, List.setIfInBounds_toArray, List.set_cons_zero, List.set_cons_succ])
                refine wpAnyH_done (by kernel_rfl) ?_ _
                refine NoPanic.normal ?_
                go_wp2_with fail
                go_roundw
                case rel =>
                  refine ⟨j + 1, by omega, by go_num, fun i hi => ?_, HB2.out.drew⟩
                  rcases Nat.lt_or_ge i j with h1 | h1
                  · exact HNE.out i h1
                  · obtain rfl : i = j := by omega
                    rw [HY.out]; exact HXY.out
                case measure => simp [intOf]; omega
            · obtain rfl : j = k := by omega
              have hjk2 : ¬ ((j : Int) < (j : Int)) := by omega
              by_cases hxz : x = 0
              · have HNO : Hid (¬ SpOk n (atL xs)) := Lib.hid (fun h => h.2.2.1 j hlt (by rw [HX.out]; exact hxz))
                have HB := HBT
                subst hxz
                go_wp2_with fail
                go_ret2
                exact ⟨.inr ⟨HNO.out, rfl⟩, HB.out⟩
              · have g1 : (x == 0) = false := beq_eq_false_iff_ne.2 hxz
                have HXZ := Lib.hid hxz
                have hwv : IntKind.u64.wrap x = x := IntWalk.u64_in _ (by omega)
                have hput := rput_own A' (1 + 4 * j) c' (spPre n (atL xs) j) x 4 wr (HRK.out.below HB2.out) HZ.out (by omega) hx0 (by omega)
                have e4 : putMany 4 = 4 := by decide
                rw [e4] at hput
                have HPUT := Lib.hid hput
                clear hxz hput e4
                go_wp2_with fail
                refine HPUT.out.mono ?_; rintro e w3 ⟨A3, c3, m3, hm3, rfl, ho3, hB3⟩
                have hl3 : m3 = 1 + 4 * (j + 1) := by rw [← hm3, List.length_append, be_length, spPre_length]; omega
                subst hl3
                have hb3 : ∀ y ∈ spPre n (atL xs) j ++ be x 4, 0 ≤ y ∧ y ≤ 255 := fun y hy => by
                  rcases List.mem_append.1 hy with h | h
                  · exact spPre_byte n _ (by omega) j y h
                  · exact be_byte _ _ y h
                obtain ⟨A4, c4, e4, hr4, hz4, hc4⟩ := rd_own_any ho3 hb3 (by omega)
                injection e4 with e41 _ e42
                subst e41 e42
                have HR4 : Hid (Rd w3 .u8 A3 (1 + 4 * (j + 1)) (spPre n (atL xs) (j + 1))) := Lib.hid (by rw [spPre, HX.out]; exact hr4)
                have HZ4 := Lib.hid hz4
                have HC4 := Lib.hid hc4
                have HB4 := Lib.hid (HBT.out.trans (hB3.mono HBT.out.size))
                clear hm3 ho3 hB3 hb3 hr4 hz4 hc4
                go_wp2_with fail
                go_roundw
                case rel =>
                  refine ⟨j + 1, A3, c3, by omega, by go_num, rfl, HR4.out, HZ4.out, HC4.out, fun i hi => ?_, fun i i' h1 h2 => ?_, HB4.out⟩
                  · rcases Nat.lt_or_ge i j with h1 | h1
                    · exact HNZ.out i h1
                    · obtain rfl : i = j := by omega
                      rw [HX.out]; exact HXZ.out
                  · rcases Nat.lt_or_ge i' j with h3 | h3
                    · exact HUN.out i i' h1 h3
                    · obtain rfl : i' = j := by omega
                      rw [HX.out]; exact HNE.out i h1
                case measure => simp [intOf]; omega
        · obtain rfl : k = n := by omega
          have HOK : Hid (SpOk k (atL xs)) := Lib.hid ⟨hn14.1, hn14.2, HNZ.out, HUN.out⟩
          go_wp2_with fail
          go_ret2
          exact ⟨.inl ⟨HOK.out, A', c', rfl, HRK.out, HZ.out, HC.out⟩, HB1.out⟩
end Go.Proofs.YtgecfcdafbedaaaGreat
