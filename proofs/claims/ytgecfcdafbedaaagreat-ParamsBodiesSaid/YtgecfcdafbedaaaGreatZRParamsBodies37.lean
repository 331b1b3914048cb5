/- The walk over the document's GetSolution. -/
import Derived.Test.YtgecfcdafbedaaaGreatZRParamsBodies36
namespace Go.Proofs.YtgecfcdafbedaaaGreat
open Go.RowKit
set_option linter.unusedSimpArgs false
set_option linter.unusedVariables false

theorem puzC_take (bs : List Int) : puzC (bs.take 41) = puzC bs := by
  have e0 : (bs.take 41)[0]? = bs[0]? := by rw [List.getElem?_take, if_pos (by omega)]
  have e1 : ((bs.take 41).drop 1).take 8 = (bs.drop 1).take 8 := by rw [List.drop_take, List.take_take]; rfl
  have e2 : ((bs.take 41).drop 9).take 32 = (bs.drop 9).take 32 := by rw [List.drop_take, List.take_take]; rfl
  unfold puzC
  rw [e0, e1, e2]
set_option maxRecDepth 100000 in
set_option maxHeartbeats 8000000 in
theorem rgsol_any (A : Option Addr) (n c : Nat) (bs : List Int) (w : World) (r : Rd w .u8 A n bs) (l : n ≤ c) (hz : A = none → c = 0) :
    Calls Tryz.prog 13 #[.slice A n c] w fun e w' => SolAns bs n e ∧ Below w.heap.size w w' := by
  have hbig := r.big
  obtain ⟨S, hS⟩ : ∃ S, w.heap.size = S := ⟨_, rfl⟩
  have HS := Lib.hid hS
  have HSW : Hid (w.heap.size ≤ S) := Lib.hid (by rw [hS]; exact Nat.le_refl _)
  have HUP := Lib.hid Tryz.underlying29
  have HUS := Lib.hid Tryz.underlying27
  have HALP := Lib.hid alloc_puz
  have HALS := Lib.hid alloc_sum
  have HBP := Lib.hid bld_puz
  have HBS := Lib.hid bld_sum
  have HL1 : Hid (zPUZ.length = 34) := Lib.hid rfl
  have HL2 : Hid (zSum.length = 32) := Lib.hid rfl
  have HOP := Lib.hid one_puz
  have HOS := Lib.hid one_sum
  have HSZP : Hid ((Tryz.prog.info? 29).map (·.size) = some zPUZ.length) := Lib.hid size_puz
  have HSZS : Hid ((Tryz.prog.info? 27).map (·.size) = some zSum.length) := Lib.hid size_sum
  have hgood : (n = 73 ∧ bs[0]?.getD 0 ≤ 12) → SolAns bs n (.returned (.tuple #[.agg (puzC bs).toArray, .agg ((bs.drop 41).map (Value.int .u8)).toArray, .int .i64 0])) := fun h => .inl ⟨h, rfl⟩
  have hbad : ¬ (n = 73 ∧ bs[0]?.getD 0 ≤ 12) → SolAns bs n (.returned (.tuple #[.agg zPUZ.toArray, .agg zSum.toArray, .int .i64 4])) := fun h => .inr ⟨h, rfl⟩
  obtain ⟨G, hG⟩ : ∃ G : Ending → Prop, SolAns bs n = G := ⟨_, rfl⟩
  rw [hG] at hgood hbad ⊢
  have HBAD := Lib.hid hbad
  have HGOOD := Lib.hid hgood
  clear hG hbad hgood hS
  by_cases h : n = 73
  · subst h
    have s4 := fun W => slice_to W A 73 c 41 (by omega)
    have s4' : ∀ W, (Instr.slice 22 (.slice A 73 c) none (some (.int .i64 41)) none).run Tryz.prog W = .ok (.slice A 41 c) W := fun W => s4 W
    obtain ⟨A2, q1, q2, q3⟩ := slice_from A 73 c 41 (by omega) l hz
    have HSL2 := Lib.hid q1
    have hpz := fun w1 (hB : Below w.heap.size w w1) => rgpuz_any A 41 c (bs.take 41) w1 ((r.below hB).cutB 41 (by omega)) (by omega) hz
    rw [puzC_take, show (bs.take 41)[0]? = bs[0]? by rw [List.getElem?_take, if_pos (by omega)]] at hpz
    have hf2 := fun w1 (hB : Below w.heap.size w w1) => rsum_any A2 32 (c - 41) (bs.drop 41) w1 (q2 w1 bs (r.below hB)) (Nat.le_refl _)
    rw [List.take_of_length_le (by have := r.len; simp; omega)] at hf2
    have hp1 : (puzC bs).length = 34 := by have := r.len; simp [puzC]; omega
    have hp2 : ((bs.drop 41).map (Value.int .u8)).length = 32 := by have := r.len; simp; omega
    have ho1 : ∀ v ∈ puzC bs, v.oneCell' = true := puz_one
    have ho2 : ∀ v ∈ (bs.drop 41).map (Value.int .u8), v.oneCell' = true := one_ints
    by_cases hx : bs[0]?.getD 0 ≤ 12
    · have hpz2 : ∀ w1, Below w.heap.size w w1 → Calls Tryz.prog 11 #[.slice A 41 c] w1 fun e w' => e = .returned (.tuple #[.agg (puzC bs).toArray, .int .i64 0]) ∧ Below w1.heap.size w1 w' := fun w1 hB => (hpz w1 hB).mono fun e w' hh => ⟨by
        rcases hh.1 with ⟨_, he⟩ | ⟨hc, _⟩
        · exact he
        · exact absurd ⟨rfl, decide_eq_true hx⟩ hc, hh.2⟩
      have HFIN := Lib.hid (HGOOD.out ⟨rfl, hx⟩)
      generalize puzC bs = V1 at hpz2 hp1 ho1 HFIN
      generalize (bs.drop 41).map (Value.int .u8) = V2 at hf2 hp2 ho2 HFIN
      have HPZ := Lib.hid hpz2
      have HF2 := Lib.hid hf2
      have HP1 := Lib.hid hp1
      have HP2 := Lib.hid hp2
      have HO1 := Lib.hid ho1
      have HO2 := Lib.hid ho2
      have HSZ1 : Hid ((Tryz.prog.info? 29).map (·.size) = some V1.length) := Lib.hid (by rw [hp1]; exact size_puz)
      have HSZ2 : Hid ((Tryz.prog.info? 27).map (·.size) = some V2.length) := Lib.hid (by rw [hp2]; exact size_sum)
      generalize zPUZ = ZP at HALP HBP HL1 HOP HSZP
      generalize zSum = ZS at HALS HBS HL2 HOS HSZS
      clear hpz hpz2 hf2 hp1 hp2 ho1 ho2 s4 q1 q2 q3 r hx HGOOD HBAD
      go_enter Tryz.func13, Tryz.ntmps13
      go_upto_region 0 with fail
      refine wp_region_lit ?_
      refine wpList_allocT (o := ⟨some 2, .alloc 29, _, _, _, _⟩) rfl 29 ZP (fun W => HALP.out W _ rfl _) ?_; intro w1 HK1 HB1
      rw [HS.out] at HK1 ⊢
      obtain ⟨T, hT⟩ : ∃ T, w1.heap.size = T := ⟨_, rfl⟩
      have HT := Lib.hid hT
      clear hT
      refine wpList_allocT (o := ⟨some 3, .alloc 27, _, _, _, _⟩) rfl 27 ZS (fun W => HALS.out W _ rfl _) ?_; intro w2 HK2 HBB2
      rw [HT.out] at HK2 ⊢
      have HKS : Hid (Blk w2 S 29 ZP) := Lib.hid (HK1.out.below HBB2.out HK1.out.lt)
      have HB2 := Lib.hid (HB1.out.trans (HBB2.out.mono HB1.out.size))
      have HST := Lib.hid (show S < T by have := HK1.out.lt; have := HT.out; omega)
      go_wp2_with fail
      refine (HPZ.out _ HB2.out).mono ?_; rintro e w3 ⟨rfl, hB3⟩
      have HKS3 : Hid (Blk w3 S 29 ZP) := Lib.hid (HKS.out.below hB3 HKS.out.lt)
      have HKT3 : Hid (Blk w3 T 27 ZS) := Lib.hid (HK2.out.below hB3 HK2.out.lt)
      have HB3 := Lib.hid (HB2.out.trans (hB3.mono HB2.out.size))
      obtain ⟨R, hR⟩ : ∃ R, w3.heap.size = R := ⟨_, rfl⟩
      have HR := Lib.hid hR
      have HTR := Lib.hid (show T < R by have := HKT3.out.lt; omega)
      clear hB3 hR
      go_upto_region 6 with (first
        | ((with_reducible refine wpList_isB (o := ⟨some 5, .alloc _, _, _, _, _⟩) ?_); refine wpList_allocT rfl 29 ZP (fun W => HALP.out W _ rfl _) ?_; intro w4 HK4 HB4; rw [HR.out] at HK4 ⊢)
        | ((with_reducible refine wpList_isB (o := ⟨none, .store 29 _ _, _, _, _, _⟩) ?_); refine wpList_over rfl 29 _ _ rfl R V1 ZP 29 rfl rfl HK4.out (by rw [HP1.out, HL1.out]) HSZ1.out HO1.out ?_; intro w5 HK5 hk5))
      have HKS5 : Hid (Blk w5.drew S 29 ZP) := Lib.hid (((HKS3.out.below HB4.out HKS3.out.lt).keep hk5.out (by have := HST.out; have := HTR.out; omega)).drew)
      have HKT5 : Hid (Blk w5.drew T 27 ZS) := Lib.hid (((HKT3.out.below HB4.out HKT3.out.lt).keep hk5.out (by have := HTR.out; omega)).drew)
      have hB5 : Below w.heap.size w w5 := below_keeps (HB3.out.trans (HB4.out.mono HB3.out.size)) hk5.out (Nat.le_refl _) (fun i hi => by rw [hi, ← HR.out]; exact HB3.out.size)
      have HB5 := Lib.hid (show Below w.heap.size w w5.drew from ⟨hB5.os, hB5.tape, hB5.output, hB5.size, hB5.block⟩)
      have a0 := HK5.out.range
      clear hB5 hk5 HB4
      refine wp_region_noPanic ?_
      refine wp_region_held_drew (S := (fun w' => w'.rangeAt R 0 V1)) (by kernel_rfl) ?_ (fun hHeld => ?_)
      · ((try dsimp only) <;> (first | assumption | (go_keep; done)))
      refine wpAnyH_take (i := 0) (oi := ⟨some 23, _, _, _, _, _⟩) (v := .agg V1.toArray) rfl (by kernel_rfl) (by kernel_rfl) (by kernel_rfl) (fun _ _ _ h => False.elim h) ?_ (by assumption) ?_
      · refine yieldsIf_load_mid ?_ 29 _ rfl R 0 rfl V1 _ ?_ HUP.out rfl HSZ1.out
        · rfl
        · (intro w hSw; (try dsimp only at hSw); go_split_ands; assumption)
      (try simp only [Act.put, List.setIfInBounds_toArray, List.set_cons_zero, List.set_cons_succ])
      refine wpAnyH_take (i := 1) (oi := ⟨some 24, _, _, _, _, _⟩) (v := ?_) rfl (by kernel_rfl) (by kernel_rfl) (by kernel_rfl) (fun _ _ _ h => False.elim h) (Or.inl ⟨by rfl, ?_⟩) (by assumption) ?_
      rotate_left
      · intro w hSw
        (try dsimp only at hSw)
        go_simp
        all_goals with_reducible rfl
      (try simp only [Act.put, List.setIfInBounds_toArray, List.set_cons_zero, List.set_cons_succ])
      refine wpAnyH_take (i := 2) (oi := ⟨some 25, _, _, _, _, _⟩) (v := .slice A2 32 (c - 41)) rfl (by kernel_rfl) (by kernel_rfl) (by kernel_rfl) (fun _ _ _ h => False.elim h) ?_ (by assumption) ?_
      · exact yieldsIf_sliceG (by rfl) 22 _ _ _ _ rfl _ 5 Tryz.underlying22 (fun W => by simpa [Act.eval, Act.put] using HSL2.out W)
      (try simp only [Act.put, List.setIfInBounds_toArray, List.set_cons_zero, List.set_cons_succ])
      refine wpAnyH_ready (rs := [3]) (by kernel_rfl) (by simp) ?_
      refine AllReadyH.cons (o := ⟨some 26, _, _, _, _, _⟩) rfl (fun K hK => ?_) AllReadyH.nil
      go_simp
      (refine (HF2.out _ HB5.out).mono ?_; rintro e w6 ⟨rfl, hB6⟩; have HKS6 : Hid (Blk w6 S 29 ZP) := Lib.hid (HKS5.out.below hB6 HKS5.out.lt); have HKT6 : Hid (Blk w6 T 27 ZS) := Lib.hid (HKT5.out.below hB6 HKT5.out.lt); have HKR6 : Hid (Blk w6 R 29 V1) := Lib.hid (HK5.out.drew.below hB6 HK5.out.drew.lt); have HB6 := Lib.hid (HB5.out.trans (hB6.mono HB5.out.size)); have a1 := HKR6.out.range; clear hB6)
      (try go_wp2_with fail)
      refine hK.out _ _ ?_ (fun hHeld => ?_)
      · ((try dsimp only) <;> (first | assumption | (go_keep; done)))
      clear hK K
      (try simp only [Act.put, List.setIfInBounds_toArray, List.set_cons_zero, List.set_cons_succ])
      refine wpAnyH_ready (rs := [4]) (by kernel_rfl) (by simp) ?_
      refine AllReadyH.cons (o := ⟨none, _, _, _, _, _⟩) rfl (fun K hK => ?_) AllReadyH.nil
      (refine step_overT rfl 29 _ _ rfl S V1 ZP 29 rfl rfl HKS6.out (by rw [HP1.out, HL1.out]) HSZ1.out HO1.out ?_; intro w7 HK7 hk7; have HKR7 : Hid (Blk w7 R 29 V1) := Lib.hid (HKR6.out.keep hk7.out (by have := HST.out; have := HTR.out; omega)); have HKT7 : Hid (Blk w7 T 27 ZS) := Lib.hid (HKT6.out.keep hk7.out (by have := HST.out; omega)); have HB7 := Lib.hid (below_keeps HB6.out hk7.out (Nat.le_refl _) (fun i hi => by rw [hi]; exact HSW.out)); have b1 := HKR7.out.range; clear hk7)
      refine hK.out _ _ ?_ (fun hHeld => ?_)
      · ((try dsimp only) <;> (first | assumption | (go_keep; done)))
      clear hK K
      (try simp only [Act.put, List.setIfInBounds_toArray, List.set_cons_zero, List.set_cons_succ])
      refine wpAnyH_ready (rs := [5]) (by kernel_rfl) (by simp) ?_
      refine AllReadyH.cons (o := ⟨none, _, _, _, _, _⟩) rfl (fun K hK => ?_) AllReadyH.nil
      (refine step_overT rfl 27 _ _ rfl T V2 ZS 27 rfl rfl HKT7.out (by rw [HP2.out, HL2.out]) HSZ2.out HO2.out ?_; intro w8 HK8 hk8; have HKR8 : Hid (Blk w8 R 29 V1) := Lib.hid (HKR7.out.keep hk8.out (by have := HTR.out; omega)); have HKS8 : Hid (Blk w8 S 29 V1) := Lib.hid (HK7.out.keep hk8.out (by have := HST.out; omega)); have HB8 := Lib.hid (below_keeps HB7.out hk8.out (Nat.le_refl _) (fun i hi => by rw [hi]; have := HSW.out; have := HST.out; omega)); have d1 := HKR8.out.range; clear hk8)
      refine hK.out _ _ ?_ (fun hHeld => ?_)
      · ((try dsimp only) <;> (first | assumption | (go_keep; done)))
      clear hK K
      (try simp only [Act.put, List.setIfInBounds_toArray, List.set_cons_zero, List.set_cons_succ])
      refine wpAnyH_take (i := 6) (oi := ⟨some 4, _, _, _, _, _⟩) (v := ?_) rfl (by kernel_rfl) (by kernel_rfl) (by kernel_rfl) (fun _ _ _ h => False.elim h) (Or.inl ⟨by rfl, ?_⟩) (by assumption) ?_
      rotate_left
      · intro w hSw
        (try dsimp only at hSw)
        go_simp
        all_goals with_reducible rfl
      (try simp only [Act.put, List.setIfInBounds_toArray, List.set_cons_zero, List.set_cons_succ])
      refine wpAnyH_done (by kernel_rfl) ?_ _
      refine NoPanic.normal ?_
      go_wp2_with fail
      refine bodyPost_ret (results_two_rows rfl _ _ S T V1 V2 _ _ rfl HKS8.out rfl HK8.out HUP.out rfl HSZ1.out HUS.out rfl HSZ2.out) rfl ?_
      exact ⟨HFIN.out, HB8.out⟩
    · have hpz2 : ∀ w1, Below w.heap.size w w1 → Calls Tryz.prog 11 #[.slice A 41 c] w1 fun e w' => e = .returned (.tuple #[.agg zPUZ.toArray, .int .i64 4]) ∧ Below w1.heap.size w1 w' := fun w1 hB => (hpz w1 hB).mono fun e w' hh => ⟨by
        rcases hh.1 with ⟨hc, _⟩ | ⟨_, he⟩
        · exact absurd (of_decide_eq_true hc.2) hx
        · exact he, hh.2⟩
      have HFIN := Lib.hid (HBAD.out (fun hh => hx hh.2))
      have HPZ := Lib.hid hpz2
      generalize zPUZ = ZP at HALP HBP HL1 HOP HSZP HPZ HFIN
      generalize zSum = ZS at HALS HBS HL2 HOS HSZS HFIN
      clear hpz hpz2 hf2 hp1 hp2 ho1 ho2 s4 q1 q2 q3 r hx HGOOD HBAD
      go_enter Tryz.func13, Tryz.ntmps13
      go_upto_region 0 with fail
      refine wp_region_lit ?_
      refine wpList_allocT (o := ⟨some 2, .alloc 29, _, _, _, _⟩) rfl 29 ZP (fun W => HALP.out W _ rfl _) ?_; intro w1 HK1 HB1
      rw [HS.out] at HK1 ⊢
      obtain ⟨T, hT⟩ : ∃ T, w1.heap.size = T := ⟨_, rfl⟩
      have HT := Lib.hid hT
      clear hT
      refine wpList_allocT (o := ⟨some 3, .alloc 27, _, _, _, _⟩) rfl 27 ZS (fun W => HALS.out W _ rfl _) ?_; intro w2 HK2 HBB2
      rw [HT.out] at HK2 ⊢
      have HKS : Hid (Blk w2 S 29 ZP) := Lib.hid (HK1.out.below HBB2.out HK1.out.lt)
      have HB2 := Lib.hid (HB1.out.trans (HBB2.out.mono HB1.out.size))
      have HST := Lib.hid (show S < T by have := HK1.out.lt; have := HT.out; omega)
      go_wp2_with fail
      refine (HPZ.out _ HB2.out).mono ?_; rintro e w3 ⟨rfl, hB3⟩
      have HKS3 : Hid (Blk w3 S 29 ZP) := Lib.hid (HKS.out.below hB3 HKS.out.lt)
      have HKT3 : Hid (Blk w3 T 27 ZS) := Lib.hid (HK2.out.below hB3 HK2.out.lt)
      have HB3 := Lib.hid (HB2.out.trans (hB3.mono HB2.out.size))
      obtain ⟨R, hR⟩ : ∃ R, w3.heap.size = R := ⟨_, rfl⟩
      have HR := Lib.hid hR
      have HTR := Lib.hid (show T < R by have := HKT3.out.lt; omega)
      clear hB3 hR
      go_upto_region 5 with (first
        | ((with_reducible refine wpList_isB (o := ⟨some 5, .alloc _, _, _, _, _⟩) ?_); refine wpList_allocT rfl 29 ZP (fun W => HALP.out W _ rfl _) ?_; intro w4 HK4 HB4; rw [HR.out] at HK4 ⊢)
        | ((with_reducible refine wpList_isB (o := ⟨none, .store 29 _ _, _, _, _, _⟩) ?_); refine wpList_over rfl 29 _ _ rfl R ZP ZP 29 rfl rfl HK4.out rfl HSZP.out HOP.out ?_; intro w5 HK5 hk5))
      have HKS5 : Hid (Blk w5 S 29 ZP) := Lib.hid ((HKS3.out.below HB4.out HKS3.out.lt).keep hk5.out (by have := HST.out; have := HTR.out; omega))
      have HKT5 : Hid (Blk w5 T 27 ZS) := Lib.hid ((HKT3.out.below HB4.out HKT3.out.lt).keep hk5.out (by have := HTR.out; omega))
      have HB5 : Hid (Below w.heap.size w w5) := Lib.hid (below_keeps (HB3.out.trans (HB4.out.mono HB3.out.size)) hk5.out (Nat.le_refl _) (fun i hi => by rw [hi, ← HR.out]; exact HB3.out.size))
      clear hk5 HB4
      refine wp_region_lit ?_
      refine wpList_value (o := ⟨some 20, .build 29 _, _, _, _, _⟩) (v := .agg ZP.toArray) (w' := w5) rfl (by unfold execOp; simp only [Act.eval, Act.put]; simp [HBP.out]) ?_
      refine wpList_value (o := ⟨some 21, .build 27 _, _, _, _, _⟩) (v := .agg ZS.toArray) (w' := w5) rfl (by unfold execOp; simp only [Act.eval, Act.put]; simp [HBS.out]) ?_
      go_wp2_with (first
        | ((with_reducible refine wpList_isB (o := ⟨none, .store 29 _ _, _, _, _, _⟩) ?_); refine wpList_over rfl 29 _ _ rfl S ZP ZP 29 rfl rfl HKS5.out rfl HSZP.out HOP.out ?_; intro w7 HK7 hk7)
        | ((with_reducible refine wpList_isB (o := ⟨none, .store 27 _ _, _, _, _, _⟩) ?_); have HKT7 : Hid (Blk w7 T 27 ZS) := Lib.hid (HKT5.out.keep hk7.out (by have := HST.out; omega)); refine wpList_over rfl 27 _ _ rfl T ZS ZS 27 rfl rfl HKT7.out rfl HSZS.out HOS.out ?_; intro w8 HK8 hk8))
      have HB8 : Hid (Below w.heap.size w w8) := Lib.hid (below_keeps (below_keeps HB5.out hk7.out (Nat.le_refl _) (fun i hi => by rw [hi]; exact HSW.out)) hk8.out (Nat.le_refl _) (fun i hi => by rw [hi]; have := HSW.out; have := HST.out; omega))
      have HKS8 : Hid (Blk w8 S 29 ZP) := Lib.hid (HK7.out.keep hk8.out (by have := HST.out; omega))
      refine bodyPost_ret (results_two_rows rfl _ _ S T ZP ZS _ _ rfl HKS8.out rfl HK8.out HUP.out rfl HSZP.out HUS.out rfl HSZS.out) rfl ?_
      exact ⟨HFIN.out, HB8.out⟩
  · have HFIN := Lib.hid (HBAD.out (fun hh => h hh.1))
    have f1 : ((n : Int) != 73) = true := by simp; omega
    generalize zPUZ = ZP at HALP HBP HL1 HOP HSZP HFIN
    generalize zSum = ZS at HALS HBS HL2 HOS HSZS HFIN
    clear r h HGOOD HBAD
    go_enter Tryz.func13, Tryz.ntmps13
    go_upto_region 0 with fail
    refine wp_region_lit ?_
    refine wpList_allocT (o := ⟨some 2, .alloc 29, _, _, _, _⟩) rfl 29 ZP (fun W => HALP.out W _ rfl _) ?_; intro w1 HK1 HB1
    rw [HS.out] at HK1 ⊢
    obtain ⟨T, hT⟩ : ∃ T, w1.heap.size = T := ⟨_, rfl⟩
    have HT := Lib.hid hT
    clear hT
    refine wpList_allocT (o := ⟨some 3, .alloc 27, _, _, _, _⟩) rfl 27 ZS (fun W => HALS.out W _ rfl _) ?_; intro w2 HK2 HBB2
    rw [HT.out] at HK2 ⊢
    have HKS : Hid (Blk w2 S 29 ZP) := Lib.hid (HK1.out.below HBB2.out HK1.out.lt)
    have HB2 := Lib.hid (HB1.out.trans (HBB2.out.mono HB1.out.size))
    have HST := Lib.hid (show S < T by have := HK1.out.lt; have := HT.out; omega)
    go_upto_region 2 with fail
    refine wp_region_lit ?_
    refine wpList_value (o := ⟨some 10, .build 29 _, _, _, _, _⟩) (v := .agg ZP.toArray) (w' := w2) rfl (by unfold execOp; simp only [Act.eval, Act.put]; simp [HBP.out]) ?_
    refine wpList_value (o := ⟨some 11, .build 27 _, _, _, _, _⟩) (v := .agg ZS.toArray) (w' := w2) rfl (by unfold execOp; simp only [Act.eval, Act.put]; simp [HBS.out]) ?_
    go_wp2_with (first
      | ((with_reducible refine wpList_isB (o := ⟨none, .store 29 _ _, _, _, _, _⟩) ?_); refine wpList_over rfl 29 _ _ rfl S ZP ZP 29 rfl rfl HKS.out rfl HSZP.out HOP.out ?_; intro w7 HK7 hk7)
      | ((with_reducible refine wpList_isB (o := ⟨none, .store 27 _ _, _, _, _, _⟩) ?_); have HKT7 : Hid (Blk w7 T 27 ZS) := Lib.hid (HK2.out.keep hk7.out (by have := HST.out; omega)); refine wpList_over rfl 27 _ _ rfl T ZS ZS 27 rfl rfl HKT7.out rfl HSZS.out HOS.out ?_; intro w8 HK8 hk8))
    have HB8 : Hid (Below w.heap.size w w8) := Lib.hid (below_keeps (below_keeps HB2.out hk7.out (Nat.le_refl _) (fun i hi => by rw [hi]; exact HSW.out)) hk8.out (Nat.le_refl _) (fun i hi => by rw [hi]; have := HSW.out; have := HST.out; omega))
    have HKS8 : Hid (Blk w8 S 29 ZP) := Lib.hid (HK7.out.keep hk8.out (by have := HST.out; omega))
    refine bodyPost_ret (results_two_rows rfl _ _ S T ZP ZS _ _ rfl HKS8.out rfl HK8.out HUP.out rfl HSZP.out HUS.out rfl HSZS.out) rfl ?_
    exact ⟨HFIN.out, HB8.out⟩
end Go.Proofs.YtgecfcdafbedaaaGreat
