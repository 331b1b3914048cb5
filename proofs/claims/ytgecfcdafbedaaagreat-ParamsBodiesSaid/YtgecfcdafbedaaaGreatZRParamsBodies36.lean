/- The walks over the document's readers of bodies. (Printed by wip/mkbr.py.). -/
import Derived.Test.YtgecfcdafbedaaaGreatZRParamsBodies30
import Derived.Test.YtgecfcdafbedaaaGreatZRParamsBodies29
import Derived.Test.YtgecfcdafbedaaaGreatZRParamsBodies24
import Derived.Test.YtgecfcdafbedaaaGreatZRParamsBodies35
import Derived.Test.YtgecfcdafbedaaaGreatZRParamsBodies34
import Derived.Deep.DeepCutAuto
namespace Go.Proofs.YtgecfcdafbedaaaGreat
open Go.RowKit
set_option linter.unusedSimpArgs false
set_option linter.unusedVariables false

section
variable {P : Program} {ops : Array Oper} {rest : List Oper} {o : Oper} {a : Act} {w : World} {Q : Exit → Act → World → Prop}
theorem wpList_isB (h : wpList P ops Q (o :: rest) a w) : wpList P ops Q (o :: rest) a w := h
end
theorem get4 {w : World} {A : Option Addr} {n : Nat} {bs : List Int} (r : Rd w .u8 A n bs) (h : 4 ≤ n) : getN bs n 4 = told (bs.take 4) ∧ getE n 4 = 0 := by
  have e1 : getE n 4 = 0 := by unfold getE; rw [if_neg (by omega), if_neg (by omega)]
  exact ⟨by unfold getN; rw [if_pos e1]; rfl, e1⟩
set_option maxRecDepth 100000 in
set_option maxHeartbeats 2000000 in
theorem rcount_any (A : Option Addr) (n c : Nat) (bs : List Int) (w : World) (r : Rd w .u8 A n bs) (l : n ≤ c) :
    Calls Tryz.prog 15 #[.slice A n c] w fun e w' => e = .returned (.tuple #[.int .u32 (cntV bs n), .int .i64 (cntE n)]) ∧ Below w.heap.size w w' := by
  have hbig := r.big
  by_cases h : n = 4
  · subst h
    have hg := refget_any A 4 c bs 4 w r l
    obtain ⟨e1, e2⟩ := get4 r (by omega)
    rw [e1, e2] at hg
    have b1 := told4 r
    have e3 : cntV bs 4 = told (bs.take 4) := by unfold cntV; rw [if_pos rfl]
    rw [e3]
    generalize told (bs.take 4) = x at hg b1 ⊢
    have HG := Lib.hid hg
    have hw : IntKind.u32.wrap x = x := IntWalk.u32_in _ (by omega)
    clear hg e1 e2 e3 r
    go_enter Tryz.func15, Tryz.ntmps15
    go_wp2_with fail
    refine HG.out.mono ?_; rintro e w1 ⟨rfl, hB⟩
    have HB := Lib.hid hB
    clear hB
    go_wp2_with fail
    go_ret2
    exact ⟨rfl, HB.out⟩
  · have e3 : cntV bs n = 0 ∧ cntE n = 4 := by unfold cntV cntE; rw [if_neg h, if_neg h]; exact ⟨rfl, rfl⟩
    rw [e3.1, e3.2]
    have f1 : ((n : Int) != 4) = true := by simp; omega
    clear h e3
    go_enter Tryz.func15, Tryz.ntmps15
    go_wp2_with fail
    go_ret2
    exact ⟨rfl, Below.refl _ _⟩
set_option maxRecDepth 100000 in
set_option maxHeartbeats 2000000 in
theorem rlane_any (A : Option Addr) (n c : Nat) (bs : List Int) (w : World) (r : Rd w .u8 A n bs) (l : n ≤ c) (hz : A = none → c = 0) :
    Calls Tryz.prog 6 #[.slice A n c] w fun e w' => e = .returned (.tuple #[.int .u32 (laneV bs n).1, .int .u32 (laneV bs n).2.1, .int .i64 (laneV bs n).2.2]) ∧ Below w.heap.size w w' := by
  have hbig := r.big
  by_cases h : n = 8
  · subst h
    obtain ⟨A', s1, s2, s3⟩ := slice_from A 8 c 4 (by omega) l hz
    have b1 := told4 r
    have b2 := told4 (s2 w bs r)
    have hg := refget_any A 8 c bs 4 w r l
    obtain ⟨e1, e2⟩ := get4 r (by omega)
    rw [e1, e2] at hg
    have hg2 := fun w1 (hB : Below w.heap.size w w1) => by
      have := refget_any A' 4 (c - 4) (bs.drop 4) 4 w1 (s2 w1 bs (r.below hB)) (by omega)
      obtain ⟨e3, e4⟩ := get4 (s2 w1 bs (r.below hB)) (by omega)
      rw [e3, e4] at this
      exact this
    have e5 : laneV bs 8 = (told (bs.take 4), told ((bs.drop 4).take 4), 0) := by unfold laneV; rw [if_pos rfl]
    rw [e5]
    generalize told (bs.take 4) = x at hg b1 ⊢
    generalize told ((bs.drop 4).take 4) = y at hg2 b2 ⊢
    have HG := Lib.hid hg
    have HG2 := Lib.hid hg2
    have hw : IntKind.u32.wrap x = x := IntWalk.u32_in _ (by omega)
    have hw2 : IntKind.u32.wrap y = y := IntWalk.u32_in _ (by omega)
    have s1' : ∀ W, (Instr.slice 22 (.slice A 8 c) (some (.int .i64 4)) none none).run Tryz.prog W = .ok (.slice A' 4 (c - 4)) W := fun W => s1 W
    clear hg hg2 e1 e2 e5 r s1 s2 s3
    go_enter Tryz.func6, Tryz.ntmps6
    go_wp2_with fail
    refine HG.out.mono ?_; rintro e w1 ⟨rfl, hB⟩
    have HB := Lib.hid hB
    clear hB
    go_wp2_with fail
    refine (HG2.out w1 HB.out).mono ?_; rintro e w2 ⟨rfl, hB2⟩
    have HB2 := Lib.hid (HB.out.trans (hB2.mono HB.out.size))
    clear hB2
    go_wp2_with fail
    go_ret3
    exact ⟨rfl, HB2.out⟩
  · have e3 : laneV bs n = (0, 0, 4) := by unfold laneV; rw [if_neg h]
    rw [e3]
    have f1 : ((n : Int) != 8) = true := by simp; omega
    clear h e3
    go_enter Tryz.func6, Tryz.ntmps6
    go_wp2_with fail
    go_ret3
    exact ⟨rfl, Below.refl _ _⟩
/-- A sum, so far. -/
def sumK (bs : List Int) (k : Nat) : List Int := bs.take k ++ List.replicate (32 - k) 0
theorem sumK_len {bs : List Int} {k : Nat} (h : 32 ≤ bs.length) (hk : k ≤ 32) : (sumK bs k).length = 32 := by simp [sumK]; omega
theorem sumK_next {bs : List Int} {k : Nat} {x : Int} (hk : k < 32) (hx : bs[k]? = some x) : (sumK bs k).set k x = sumK bs (k + 1) := by
  have hl := (List.getElem?_eq_some_iff.1 hx).1
  have e1 : 32 - k = (32 - (k + 1)) + 1 := by omega
  have e2 : (bs.take k).length = k := by rw [List.length_take]; omega
  unfold sumK
  rw [e1, List.replicate_succ, List.set_append_right _ _ (by omega), e2, Nat.sub_self, List.set_cons_zero, List.take_succ_eq_append_getElem hl, (List.getElem?_eq_some_iff.1 hx).2]
  simp
set_option maxRecDepth 100000 in
set_option maxHeartbeats 2000000 in
theorem rsum_any (A : Option Addr) (n c : Nat) (bs : List Int) (w : World) (r : Rd w .u8 A n bs) (hn : 32 ≤ n) :
    Calls Tryz.prog 49 #[.slice A n c] w fun e w' => e = .returned (.agg ((bs.take 32).map (Value.int .u8)).toArray) ∧ Below w.heap.size w w' := by
  have hbig := r.big
  obtain ⟨b, off, rfl, hb, hc⟩ := r.row (by omega)
  have HBL := Lib.hid hb
  have HC : Hid (∀ W, Below w.heap.size w W → ∀ j x, bs[j]? = some x → j < n → W.cell? ⟨b, off + j, none⟩ = some (.int .u8 x)) := Lib.hid (fun W hW j x hx hj => by
    have := (hW.cell (p := ⟨b, off + j, none⟩) hb).trans (hc j hj)
    rwa [hx] at this)
  have HRL := Lib.hid r.len
  have HBY := Lib.hid (rd_bytes r)
  obtain ⟨S, hS⟩ : ∃ S, w.heap.size = S := ⟨_, rfl⟩
  have HS := Lib.hid hS
  have HAL := Lib.hid alloc_sum
  have HZ : Hid (zSum = (sumK bs 0).map (Value.int .u8)) := Lib.hid rfl
  have HZL : Hid (zSum.length = 32) := Lib.hid rfl
  have HU := Lib.hid Tryz.underlying27
  generalize zSum = Z at HAL HZ HZL
  clear r hb hc hS
  go_enter Tryz.func49, Tryz.ntmps49
  go_upto_region 0 with fail
  refine wp_region_lit ?_
  refine wpList_allocT (o := ⟨some 2, .alloc 27, _, _, _, _⟩) rfl 27 Z (fun W => HAL.out W _ rfl _) ?_; intro w1 HK1 HB1
  rw [HS.out] at HK1 ⊢
  obtain ⟨T, hT⟩ : ∃ T, w1.heap.size = T := ⟨_, rfl⟩
  have HT := Lib.hid hT
  have HST : Hid (S < T) := Lib.hid (by rw [← hT]; exact HK1.out.lt)
  have HSW : Hid (w.heap.size ≤ S) := Lib.hid (by rw [HS.out]; exact Nat.le_refl _)
  clear hT
  go_upto_region 1 with fail
  refine wp_region_lit ?_
  refine wpList_allocT (o := ⟨some 3, .alloc 27, _, _, _, _⟩) rfl 27 Z (fun W => HAL.out W _ rfl _) ?_; intro w2 HK2 HB2
  rw [HT.out] at HK2 ⊢
  have HB20 := Lib.hid (HB1.out.trans (HB2.out.mono HB1.out.size))
  have HK12 : Hid (Blk w2 S 27 Z) := Lib.hid (HK1.out.below HB2.out HK1.out.lt)
  rw [HZ.out] at HK2
  go_wp2_with fail
  go_loopw [4] (fun i wr => ∃ k : Nat, k ≤ 32 ∧ i = .int .i64 (k : Int) ∧ Blk wr T 27 ((sumK bs k).map (Value.int .u8)) ∧ Keeps (fun i => i = T) w2 wr) (fun i _ => 32 - (intOf i).toNat)
  case atStart => exact ⟨0, by omega, rfl, HK2.out, Keeps.refl _ _⟩
  case round =>
    obtain ⟨k, hk, rfl, hkb, hkk⟩ := hrel
    have HKB := Lib.hid hkb
    have HKK := Lib.hid hkk
    clear hkb hkk
    have HBR := Lib.hid (below_keeps HB20.out HKK.out (Nat.le_refl _) (fun i hi => by rw [hi]; have := HST.out; have := HSW.out; omega))
    by_cases hlt : k < 32
    · obtain ⟨x, hx⟩ : ∃ x, bs[k]? = some x := ⟨_, List.getElem?_eq_getElem (by rw [HRL.out]; omega)⟩
      have cx := HC.out wr HBR.out k x hx (by omega)
      have fr : wr.frozen? ⟨T, k, none⟩ = false := HKB.out.free k
      obtain ⟨y, hy⟩ : ∃ y, wr.cell? ⟨T, k, none⟩ = some (.int .u8 y) := ⟨_, HKB.out.int_at k (by rw [sumK_len (by rw [HRL.out]; omega) (by omega)]; exact hlt)⟩
      have i0 : (0 : Int) ≤ (k : Int) := by omega
      have i1 : (k : Int) < (n : Int) := by omega
      have i2 : (k : Int) < 32 := by omega
      have HN := Lib.hid (sumK_next hlt hx)
      clear hx
      go_wp2_with fail
      go_roundw
      case rel =>
        refine ⟨k + 1, by omega, by go_num, ?_, HKK.out.trans (Keeps.set1 wr ⟨T, k, none⟩ _)⟩
        rw [← HN.out]
        exact HKB.out.int_put k x
      case measure => simp [intOf]; omega
    · obtain rfl : k = 32 := by omega
      have e1 : (sumK bs 32).map (Value.int .u8) = (bs.take 32).map (Value.int .u8) := by simp [sumK]
      have hlen : ((bs.take 32).map (Value.int .u8)).length = 32 := by rw [List.length_map, List.length_take, HRL.out]; omega
      have hone : ∀ v ∈ (bs.take 32).map (Value.int .u8), v.oneCell' = true := one_ints
      have HKB2 : Hid (Blk wr T 27 ((bs.take 32).map (Value.int .u8))) := Lib.hid (by rw [← e1]; exact HKB.out)
      obtain ⟨B, hBq⟩ : ∃ B, (bs.take 32).map (Value.int .u8) = B := ⟨_, rfl⟩
      rw [hBq] at HKB2 hlen hone
      have HBQ := Lib.hid hBq
      have HLEN := Lib.hid hlen
      have HONE := Lib.hid hone
      have HSZ : Hid ((Tryz.prog.info? 27).map (·.size) = some B.length) := Lib.hid (by rw [hlen]; exact size_sum)
      have HKS : Hid (Blk wr S 27 Z) := Lib.hid (HK12.out.keep HKK.out (by have := HST.out; omega))
      clear hlen hone e1 HKB hBq
      go_upto_region 6 with fail
      refine wp_region_lit ?_
      refine wpList_loadT (o := ⟨some 15, .load 27 _, _, _, _, _⟩) rfl 27 _ rfl T rfl 27 B _ HKB2.out HU.out rfl HSZ.out ?_
      refine wpList_over (o := ⟨none, .store 27 _ _, _, _, _, _⟩) rfl 27 _ _ rfl S B Z 27 rfl rfl HKS.out (by rw [HLEN.out, HZL.out]) HSZ.out HONE.out ?_; intro w3 HK3 hk3
      have HB3 := Lib.hid (below_keeps HBR.out hk3.out (Nat.le_refl _) (fun i hi => by rw [hi]; exact HSW.out))
      clear hk3
      go_wp2_with fail
      refine bodyPost_ret (results_rowT rfl _ S _ _ _ rfl HK3.out HU.out rfl HSZ.out) rfl ?_
      exact ⟨by rw [HBQ.out], HB3.out⟩
theorem bld_num (W : World) : (Instr.build 31 #[]).run Tryz.prog W = .ok (.agg zNUM.toArray) W := by kernel_rfl
theorem bld_sum (W : World) : (Instr.build 27 #[]).run Tryz.prog W = .ok (.agg zSum.toArray) W := by kernel_rfl
theorem bld_sig (W : World) : (Instr.build 33 #[]).run Tryz.prog W = .ok (.agg zSIG.toArray) W := by kernel_rfl
theorem bld_puz (W : World) : (Instr.build 29 #[]).run Tryz.prog W = .ok (.agg zPUZ.toArray) W := by kernel_rfl
theorem one_num : ∀ v ∈ zNUM, v.oneCell' = true := by decide
theorem one_sum : ∀ v ∈ zSum, v.oneCell' = true := by decide
theorem one_sig : ∀ v ∈ zSIG, v.oneCell' = true := by decide
theorem one_puz : ∀ v ∈ zPUZ, v.oneCell' = true := by decide
set_option maxRecDepth 100000 in
set_option maxHeartbeats 4000000 in
theorem rgnum_any (A : Option Addr) (n c : Nat) (bs : List Int) (w : World) (r : Rd w .u8 A n bs) (l : n ≤ c) (hz : A = none → c = 0) :
    Calls Tryz.prog 17 #[.slice A n c] w fun e w' => ExAns (n = 32) (.agg (longC bs).toArray) (.agg zNUM.toArray) e ∧ Below w.heap.size w w' := by
  have hbig := r.big
  obtain ⟨S, hS⟩ : ∃ S, w.heap.size = S := ⟨_, rfl⟩
  have HS := Lib.hid hS
  have HSW : Hid (w.heap.size ≤ S) := Lib.hid (by rw [hS]; exact Nat.le_refl _)
  have HAL := Lib.hid alloc_num
  have HBLD := Lib.hid bld_num
  have HZ1 := Lib.hid one_num
  have HZL : Hid (zNUM.length = 4) := Lib.hid rfl
  have HSZZ : Hid ((Tryz.prog.info? 31).map (·.size) = some zNUM.length) := Lib.hid (by kernel_rfl)
  have HU := Lib.hid Tryz.underlying31
  by_cases h : n = 32
  · have HYES := Lib.hid h
    subst h
    have hg := fun w1 (hB : Below w.heap.size w w1) => refgetlong_any A 32 c bs w1 (r.below hB) l hz
    have e1 : longE 32 = 0 := by decide
    have e2 : longOf (longGot bs 32) = .agg (longC bs).toArray := rfl
    rw [e1, e2] at hg
    have hlen : (longC bs).length = 4 := rfl
    have hone : ∀ v ∈ longC bs, v.oneCell' = true := one_ints
    generalize longC bs = V at hg hlen hone ⊢
    have HG := Lib.hid hg
    have HLEN := Lib.hid hlen
    have HONE := Lib.hid hone
    have HSZ : Hid ((Tryz.prog.info? 31).map (·.size) = some V.length) := Lib.hid (by rw [hlen]; exact size_num)
    generalize zNUM = Z at HAL HBLD HZ1 HZL HSZZ ⊢
    clear hg hlen hone e1 e2 r hS
    go_enter Tryz.func17, Tryz.ntmps17
    go_upto_region 0 with fail
    refine wp_region_lit ?_
    refine wpList_allocT (o := ⟨some 2, .alloc 31, _, _, _, _⟩) rfl 31 Z (fun W => HAL.out W _ rfl _) ?_; intro w1 HK1 HB1
    rw [HS.out] at HK1 ⊢
    go_wp2_with fail
    refine (HG.out _ HB1.out).mono ?_; rintro e w2 ⟨rfl, hB2⟩
    have HK2 : Hid (Blk w2 S 31 Z) := Lib.hid (HK1.out.below hB2 HK1.out.lt)
    have HB2 := Lib.hid (HB1.out.trans (hB2.mono HB1.out.size))
    obtain ⟨T, hT⟩ : ∃ T, w2.heap.size = T := ⟨_, rfl⟩
    have HT := Lib.hid hT
    have HST : Hid (S < T) := Lib.hid (by rw [← hT]; exact HK2.out.lt)
    clear hB2 hT
    go_upto_region 4 with (first
      | ((with_reducible refine wpList_isB (o := ⟨some 4, .alloc _, _, _, _, _⟩) ?_); refine wpList_allocT rfl 31 Z (fun W => HAL.out W _ rfl _) ?_; intro w3 HK3 HB3; rw [HT.out] at HK3 ⊢)
      | ((with_reducible refine wpList_isB (o := ⟨none, .store 31 _ _, _, _, _, _⟩) ?_); refine wpList_over rfl 31 _ _ rfl T V Z 31 rfl rfl HK3.out (by rw [HLEN.out, HZL.out]) HSZ.out HONE.out ?_; intro w4 HK4 hk4))
    have HB4 := Lib.hid (below_keeps (HB2.out.trans (HB3.out.mono HB2.out.size)) hk4.out (Nat.le_refl _) (fun i hi => by rw [hi]; have := HST.out; have := HSW.out; omega))
    have HKS : Hid (Blk w4 S 31 Z) := Lib.hid ((HK2.out.below HB3.out HK2.out.lt).keep hk4.out (by have := HST.out; omega))
    clear hk4
    refine wp_region_lit ?_
    refine wpList_loadT (o := ⟨some 15, .load 31 _, _, _, _, _⟩) rfl 31 _ rfl T rfl 31 V _ HK4.out HU.out rfl HSZ.out ?_
    refine wpList_over (o := ⟨none, .store 31 _ _, _, _, _, _⟩) rfl 31 _ _ rfl S V Z 31 rfl rfl HKS.out (by rw [HLEN.out, HZL.out]) HSZ.out HONE.out ?_; intro w5 HK5 hk5
    have HB5 := Lib.hid (below_keeps HB4.out hk5.out (Nat.le_refl _) (fun i hi => by rw [hi]; exact HSW.out))
    clear hk5
    go_wp2_with fail
    refine bodyPost_ret (results_row_tmp rfl _ _ S V _ rfl HK5.out HU.out rfl HSZ.out) rfl ?_
    exact ⟨.inl ⟨HYES.out, rfl⟩, HB5.out⟩
  · have HNO := Lib.hid h
    have f1 : ((n : Int) != 32) = true := by simp; omega
    generalize zNUM = Z at HAL HBLD HZ1 HZL HSZZ ⊢
    generalize longC bs = V
    clear h r hS
    go_enter Tryz.func17, Tryz.ntmps17
    go_upto_region 0 with fail
    refine wp_region_lit ?_
    refine wpList_allocT (o := ⟨some 2, .alloc 31, _, _, _, _⟩) rfl 31 Z (fun W => HAL.out W _ rfl _) ?_; intro w1 HK1 HB1
    rw [HS.out] at HK1 ⊢
    go_upto_region 2 with fail
    refine wp_region_lit ?_
    refine wpList_value (o := ⟨some 9, .build 31 _, _, _, _, _⟩) (v := .agg Z.toArray) (w' := w1) rfl (by unfold execOp; simp only [Act.eval, Act.put]; simp [HBLD.out]) ?_
    refine wpList_over (o := ⟨none, .store 31 _ _, _, _, _, _⟩) rfl 31 _ _ rfl S Z Z 31 rfl rfl HK1.out rfl HSZZ.out HZ1.out ?_; intro w2 HK2 hk2
    have HB2 := Lib.hid (below_keeps HB1.out hk2.out (Nat.le_refl _) (fun i hi => by rw [hi]; exact HSW.out))
    clear hk2
    go_wp2_with fail
    refine bodyPost_ret (results_row_tmp rfl _ _ S Z _ rfl HK2.out HU.out rfl HSZZ.out) rfl ?_
    exact ⟨.inr ⟨HNO.out, rfl⟩, HB2.out⟩
set_option maxRecDepth 100000 in
set_option maxHeartbeats 4000000 in
theorem rgsum_any (A : Option Addr) (n c : Nat) (bs : List Int) (w : World) (r : Rd w .u8 A n bs) (l : n ≤ c) (hz : A = none → c = 0) :
    Calls Tryz.prog 19 #[.slice A n c] w fun e w' => ExAns (n = 32) (.agg (bs.map (Value.int .u8)).toArray) (.agg zSum.toArray) e ∧ Below w.heap.size w w' := by
  have hbig := r.big
  obtain ⟨S, hS⟩ : ∃ S, w.heap.size = S := ⟨_, rfl⟩
  have HS := Lib.hid hS
  have HSW : Hid (w.heap.size ≤ S) := Lib.hid (by rw [hS]; exact Nat.le_refl _)
  have HAL := Lib.hid alloc_sum
  have HBLD := Lib.hid bld_sum
  have HZ1 := Lib.hid one_sum
  have HZL : Hid (zSum.length = 32) := Lib.hid rfl
  have HSZZ : Hid ((Tryz.prog.info? 27).map (·.size) = some zSum.length) := Lib.hid (by kernel_rfl)
  have HU := Lib.hid Tryz.underlying27
  by_cases h : n = 32
  · have HYES := Lib.hid h
    subst h
    have hg := fun w1 (hB : Below w.heap.size w w1) => rsum_any A 32 c bs w1 (r.below hB) (Nat.le_refl _)
    rw [List.take_of_length_le (by rw [r.len]; omega)] at hg
    have hlen : (bs.map (Value.int .u8)).length = 32 := by rw [List.length_map, r.len]
    have hone : ∀ v ∈ bs.map (Value.int .u8), v.oneCell' = true := one_ints
    generalize bs.map (Value.int .u8) = V at hg hlen hone ⊢
    have HG := Lib.hid hg
    have HLEN := Lib.hid hlen
    have HONE := Lib.hid hone
    have HSZ : Hid ((Tryz.prog.info? 27).map (·.size) = some V.length) := Lib.hid (by rw [hlen]; exact size_sum)
    generalize zSum = Z at HAL HBLD HZ1 HZL HSZZ ⊢
    clear hg hlen hone r hS
    go_enter Tryz.func19, Tryz.ntmps19
    go_upto_region 0 with fail
    refine wp_region_lit ?_
    refine wpList_allocT (o := ⟨some 2, .alloc 27, _, _, _, _⟩) rfl 27 Z (fun W => HAL.out W _ rfl _) ?_; intro w1 HK1 HB1
    rw [HS.out] at HK1 ⊢
    go_wp2_with fail
    refine (HG.out _ HB1.out).mono ?_; rintro e w2 ⟨rfl, hB2⟩
    have HK2 : Hid (Blk w2 S 27 Z) := Lib.hid (HK1.out.below hB2 HK1.out.lt)
    have HB2 := Lib.hid (HB1.out.trans (hB2.mono HB1.out.size))
    clear hB2
    go_wp2_with ((with_reducible refine wpList_isB (o := ⟨none, .store 27 _ _, _, _, _, _⟩) ?_); refine wpList_over rfl 27 _ _ rfl S V Z 27 rfl rfl HK2.out (by rw [HLEN.out, HZL.out]) HSZ.out HONE.out ?_; intro w5 HK5 hk5)
    have HB5 := Lib.hid (below_keeps HB2.out hk5.out (Nat.le_refl _) (fun i hi => by rw [hi]; exact HSW.out))
    refine bodyPost_ret (results_row_tmp rfl _ _ S V _ rfl HK5.out HU.out rfl HSZ.out) rfl ?_
    exact ⟨.inl ⟨HYES.out, rfl⟩, HB5.out⟩
  · have HNO := Lib.hid h
    have f1 : ((n : Int) != 32) = true := by simp; omega
    generalize zSum = Z at HAL HBLD HZ1 HZL HSZZ ⊢
    generalize bs.map (Value.int .u8) = V
    clear h r hS
    go_enter Tryz.func19, Tryz.ntmps19
    go_upto_region 0 with fail
    refine wp_region_lit ?_
    refine wpList_allocT (o := ⟨some 2, .alloc 27, _, _, _, _⟩) rfl 27 Z (fun W => HAL.out W _ rfl _) ?_; intro w1 HK1 HB1
    rw [HS.out] at HK1 ⊢
    go_upto_region 2 with fail
    refine wp_region_lit ?_
    refine wpList_value (o := ⟨some 7, .build 27 _, _, _, _, _⟩) (v := .agg Z.toArray) (w' := w1) rfl (by unfold execOp; simp only [Act.eval, Act.put]; simp [HBLD.out]) ?_
    refine wpList_over (o := ⟨none, .store 27 _ _, _, _, _, _⟩) rfl 27 _ _ rfl S Z Z 27 rfl rfl HK1.out rfl HSZZ.out HZ1.out ?_; intro w2 HK2 hk2
    have HB2 := Lib.hid (below_keeps HB1.out hk2.out (Nat.le_refl _) (fun i hi => by rw [hi]; exact HSW.out))
    clear hk2
    go_wp2_with fail
    refine bodyPost_ret (results_row_tmp rfl _ _ S Z _ rfl HK2.out HU.out rfl HSZZ.out) rfl ?_
    exact ⟨.inr ⟨HNO.out, rfl⟩, HB2.out⟩
set_option maxRecDepth 100000 in
set_option maxHeartbeats 4000000 in
theorem rgsig_any (A : Option Addr) (n c : Nat) (bs : List Int) (w : World) (r : Rd w .u8 A n bs) (l : n ≤ c) (hz : A = none → c = 0) :
    Calls Tryz.prog 21 #[.slice A n c] w fun e w' => ExAns (n = 64) (.agg (sigC bs).toArray) (.agg zSIG.toArray) e ∧ Below w.heap.size w w' := by
  have hbig := r.big
  obtain ⟨S, hS⟩ : ∃ S, w.heap.size = S := ⟨_, rfl⟩
  have HS := Lib.hid hS
  have HSW : Hid (w.heap.size ≤ S) := Lib.hid (by rw [hS]; exact Nat.le_refl _)
  have HAL := Lib.hid alloc_sig
  have HBLD := Lib.hid bld_sig
  have HZ1 := Lib.hid one_sig
  have HZL : Hid (zSIG.length = 8) := Lib.hid rfl
  have HSZZ : Hid ((Tryz.prog.info? 33).map (·.size) = some zSIG.length) := Lib.hid (by kernel_rfl)
  have HU := Lib.hid Tryz.underlying33
  have HALN := Lib.hid alloc_num
  have HZNL : Hid (zNUM.length = 4) := Lib.hid rfl
  have HUN := Lib.hid Tryz.underlying31
  by_cases h : n = 64
  · have HYES := Lib.hid h
    subst h
    obtain ⟨A', s1, s2, s3⟩ := slice_from A 64 c 32 (by omega) l hz
    have s4 := fun W => slice_to W A 64 c 32 (by omega)
    have hg := fun w1 (hB : Below w.heap.size w w1) => refgetlong_any A 32 c (bs.take 32) w1 ((r.below hB).cutB 32 (by omega)) (by omega) hz
    have hg2 := fun w1 (hB : Below w.heap.size w w1) => refgetlong_any A' 32 (c - 32) (bs.drop 32) w1 (s2 w1 bs (r.below hB)) (by omega) s3
    have e1 : longE 32 = 0 := by decide
    have e2 : longOf (longGot (bs.take 32) 32) = .agg (longC (bs.take 32)).toArray := rfl
    have e3 : longOf (longGot (bs.drop 32) 32) = .agg (longC (bs.drop 32)).toArray := rfl
    rw [e1, e2] at hg
    rw [e1, e3] at hg2
    have hbu := build_sig (longC (bs.take 32)) (longC (bs.drop 32)) rfl rfl
    have hl1 : (longC (bs.take 32)).length = 4 := rfl
    have hl2 : (longC (bs.drop 32)).length = 4 := rfl
    have ho1 : ∀ v ∈ longC (bs.take 32), v.oneCell' = true := one_ints
    have ho2 : ∀ v ∈ longC (bs.drop 32), v.oneCell' = true := one_ints
    have hone : ∀ v ∈ sigC bs, v.oneCell' = true := fun v hv => by
      rcases List.mem_append.1 hv with h | h <;> exact one_ints v h
    have hlen : (sigC bs).length = 8 := rfl
    rw [show longC (bs.take 32) ++ longC (bs.drop 32) = sigC bs from rfl] at hbu
    generalize sigC bs = V at hbu hone hlen ⊢
    generalize longC (bs.take 32) = V1 at hg hbu hl1 ho1
    generalize longC (bs.drop 32) = V2 at hg2 hbu hl2 ho2
    have HG := Lib.hid hg
    have HG2 := Lib.hid hg2
    have HBU := Lib.hid hbu
    have HLEN := Lib.hid hlen
    have HONE := Lib.hid hone
    have HL1 := Lib.hid hl1
    have HL2 := Lib.hid hl2
    have HO1 := Lib.hid ho1
    have HO2 := Lib.hid ho2
    have HSZ : Hid ((Tryz.prog.info? 33).map (·.size) = some V.length) := Lib.hid (by rw [hlen]; exact size_sig)
    have HSZ1 : Hid ((Tryz.prog.info? 31).map (·.size) = some V1.length) := Lib.hid (by rw [hl1]; exact size_num)
    have HSZ2 : Hid ((Tryz.prog.info? 31).map (·.size) = some V2.length) := Lib.hid (by rw [hl2]; exact size_num)
    have s1' : ∀ W, (Instr.slice 22 (.slice A 64 c) (some (.int .i64 32)) none none).run Tryz.prog W = .ok (.slice A' 32 (c - 32)) W := fun W => s1 W
    have s4' : ∀ W, (Instr.slice 22 (.slice A 64 c) none (some (.int .i64 32)) none).run Tryz.prog W = .ok (.slice A 32 c) W := fun W => s4 W
    generalize zSIG = Z at HAL HBLD HZ1 HZL HSZZ ⊢
    generalize zNUM = ZN at HALN HZNL
    clear hg hg2 hbu hlen hone hl1 hl2 ho1 ho2 e1 e2 e3 r hS s1 s2 s3 s4
    go_enter Tryz.func21, Tryz.ntmps21
    go_upto_region 0 with fail
    refine wp_region_lit ?_
    refine wpList_allocT (o := ⟨some 2, .alloc 33, _, _, _, _⟩) rfl 33 Z (fun W => HAL.out W _ rfl _) ?_; intro w1 HK1 HB1
    rw [HS.out] at HK1 ⊢
    go_wp2_with fail
    refine (HG.out _ HB1.out).mono ?_; rintro e w2 ⟨rfl, hB2⟩
    have HK2 : Hid (Blk w2 S 33 Z) := Lib.hid (HK1.out.below hB2 HK1.out.lt)
    have HB2 := Lib.hid (HB1.out.trans (hB2.mono HB1.out.size))
    obtain ⟨T, hT⟩ : ∃ T, w2.heap.size = T := ⟨_, rfl⟩
    have HT := Lib.hid hT
    have HST : Hid (S < T) := Lib.hid (by rw [← hT]; exact HK2.out.lt)
    clear hB2 hT
    go_upto_region 4 with (first
      | ((with_reducible refine wpList_isB (o := ⟨some 4, .alloc _, _, _, _, _⟩) ?_); refine wpList_allocT rfl 31 ZN (fun W => HALN.out W _ rfl _) ?_; intro w3 HK3 HB3; rw [HT.out] at HK3 ⊢)
      | ((with_reducible refine wpList_isB (o := ⟨none, .store 31 _ _, _, _, _, _⟩) ?_); refine wpList_over rfl 31 _ _ rfl T V1 ZN 31 rfl rfl HK3.out (by rw [HL1.out, HZNL.out]) HSZ1.out HO1.out ?_; intro w4 HK4 hk4))
    have HB4 := Lib.hid (below_keeps (HB2.out.trans (HB3.out.mono HB2.out.size)) hk4.out (Nat.le_refl _) (fun i hi => by rw [hi]; have := HST.out; have := HSW.out; omega))
    have HKS4 : Hid (Blk w4 S 33 Z) := Lib.hid ((HK2.out.below HB3.out HK2.out.lt).keep hk4.out (by have := HST.out; omega))
    clear hk4
    go_wp2_with fail
    refine (HG2.out _ HB4.out).mono ?_; rintro e w5 ⟨rfl, hB5⟩
    have HKS5 : Hid (Blk w5 S 33 Z) := Lib.hid (HKS4.out.below hB5 HKS4.out.lt)
    have HKT5 : Hid (Blk w5 T 31 V1) := Lib.hid (HK4.out.below hB5 HK4.out.lt)
    have HB5 := Lib.hid (HB4.out.trans (hB5.mono HB4.out.size))
    obtain ⟨R, hR⟩ : ∃ T, w5.heap.size = T := ⟨_, rfl⟩
    have HR := Lib.hid hR
    have HTR : Hid (T < R) := Lib.hid (by rw [← hR]; exact HKT5.out.lt)
    clear hB5 hR
    go_upto_region 5 with (first
      | ((with_reducible refine wpList_isB (o := ⟨some 6, .alloc _, _, _, _, _⟩) ?_); refine wpList_allocT rfl 31 ZN (fun W => HALN.out W _ rfl _) ?_; intro w6 HK6 HB6; rw [HR.out] at HK6 ⊢)
      | ((with_reducible refine wpList_isB (o := ⟨none, .store 31 _ _, _, _, _, _⟩) ?_); refine wpList_over rfl 31 _ _ rfl R V2 ZN 31 rfl rfl HK6.out (by rw [HL2.out, HZNL.out]) HSZ2.out HO2.out ?_; intro w7 HK7 hk7))
    have HB7 := Lib.hid (below_keeps (HB5.out.trans (HB6.out.mono HB5.out.size)) hk7.out (Nat.le_refl _) (fun i hi => by rw [hi]; have := HST.out; have := HSW.out; have := HTR.out; omega))
    have HKS7 : Hid (Blk w7 S 33 Z) := Lib.hid ((HKS5.out.below HB6.out HKS5.out.lt).keep hk7.out (by have := HST.out; have := HTR.out; omega))
    have HKT7 : Hid (Blk w7 T 31 V1) := Lib.hid ((HKT5.out.below HB6.out HKT5.out.lt).keep hk7.out (by have := HTR.out; omega))
    clear hk7
    refine wp_region_lit ?_
    refine wpList_loadT (o := ⟨some 24, .load 31 _, _, _, _, _⟩) rfl 31 _ rfl T rfl 31 V1 _ HKT7.out HUN.out rfl HSZ1.out ?_
    refine wpList_loadT (o := ⟨some 25, .load 31 _, _, _, _, _⟩) rfl 31 _ rfl R rfl 31 V2 _ HK7.out HUN.out rfl HSZ2.out ?_
    refine wpList_value (o := ⟨some 26, .build 33 _, _, _, _, _⟩) (v := .agg V.toArray) (w' := w7) rfl (by unfold execOp; simp only [Act.eval, Act.put]; simp [HBU.out]) ?_
    refine wpList_over (o := ⟨none, .store 33 _ _, _, _, _, _⟩) rfl 33 _ _ rfl S V Z 33 rfl rfl HKS7.out (by rw [HLEN.out, HZL.out]) HSZ.out HONE.out ?_; intro w8 HK8 hk8
    have HB8 := Lib.hid (below_keeps HB7.out hk8.out (Nat.le_refl _) (fun i hi => by rw [hi]; exact HSW.out))
    clear hk8
    go_wp2_with fail
    refine bodyPost_ret (results_row_tmp rfl _ _ S V _ rfl HK8.out HU.out rfl HSZ.out) rfl ?_
    exact ⟨.inl ⟨HYES.out, rfl⟩, HB8.out⟩
  · have HNO := Lib.hid h
    have f1 : ((n : Int) != 64) = true := by simp; omega
    generalize zSIG = Z at HAL HBLD HZ1 HZL HSZZ ⊢
    generalize sigC bs = V
    clear h r hS HALN HZNL
    go_enter Tryz.func21, Tryz.ntmps21
    go_upto_region 0 with fail
    refine wp_region_lit ?_
    refine wpList_allocT (o := ⟨some 2, .alloc 33, _, _, _, _⟩) rfl 33 Z (fun W => HAL.out W _ rfl _) ?_; intro w1 HK1 HB1
    rw [HS.out] at HK1 ⊢
    go_upto_region 2 with fail
    refine wp_region_lit ?_
    refine wpList_value (o := ⟨some 11, .build 33 _, _, _, _, _⟩) (v := .agg Z.toArray) (w' := w1) rfl (by unfold execOp; simp only [Act.eval, Act.put]; simp [HBLD.out]) ?_
    refine wpList_over (o := ⟨none, .store 33 _ _, _, _, _, _⟩) rfl 33 _ _ rfl S Z Z 33 rfl rfl HK1.out rfl HSZZ.out HZ1.out ?_; intro w2 HK2 hk2
    have HB2 := Lib.hid (below_keeps HB1.out hk2.out (Nat.le_refl _) (fun i hi => by rw [hi]; exact HSW.out))
    clear hk2
    go_wp2_with fail
    refine bodyPost_ret (results_row_tmp rfl _ _ S Z _ rfl HK2.out HU.out rfl HSZZ.out) rfl ?_
    exact ⟨.inr ⟨HNO.out, rfl⟩, HB2.out⟩
set_option maxRecDepth 100000 in
set_option maxHeartbeats 4000000 in
theorem rgpuz_any (A : Option Addr) (n c : Nat) (bs : List Int) (w : World) (r : Rd w .u8 A n bs) (l : n ≤ c) (hz : A = none → c = 0) :
    Calls Tryz.prog 11 #[.slice A n c] w fun e w' => ExAns (n = 41 ∧ decide (bs[0]?.getD 0 ≤ 12) = true) (.agg (puzC bs).toArray) (.agg zPUZ.toArray) e ∧ Below w.heap.size w w' := by
  have hbig := r.big
  obtain ⟨S, hS⟩ : ∃ S, w.heap.size = S := ⟨_, rfl⟩
  have HS := Lib.hid hS
  have HSW : Hid (w.heap.size ≤ S) := Lib.hid (by rw [hS]; exact Nat.le_refl _)
  have HAL := Lib.hid alloc_puz
  have HBLD := Lib.hid bld_puz
  have HZ1 := Lib.hid one_puz
  have HZL : Hid (zPUZ.length = 34) := Lib.hid rfl
  have HSZZ : Hid ((Tryz.prog.info? 29).map (·.size) = some zPUZ.length) := Lib.hid (by kernel_rfl)
  have HU := Lib.hid Tryz.underlying29
  by_cases h : n = 41
  · subst h
    obtain ⟨b, off, rfl, hb, hc⟩ := r.row (by omega)
    have c0 := hc 0 (by omega)
    rw [Nat.add_zero] at c0
    by_cases hx : bs[0]?.getD 0 ≤ 12
    · have HYES : Hid ((41 : Nat) = 41 ∧ decide (bs[0]?.getD 0 ≤ 12) = true) := Lib.hid ⟨rfl, decide_eq_true hx⟩
      obtain ⟨A1, s1, s2, s3⟩ := slice_from (some ⟨b, off, none⟩) 41 c 1 (by omega) l hz
      obtain ⟨A2, q1, q2, q3⟩ := slice_from (some ⟨b, off, none⟩) 41 c 9 (by omega) l hz
      have hg := fun w1 (hB : Below w.heap.size w w1) => refget_any A1 40 (c - 1) (bs.drop 1) 8 w1 (s2 w1 bs (r.below hB)) (by omega)
      have e1 : getE 40 8 = 0 := by decide
      have e2 : getN (bs.drop 1) 40 8 = told ((bs.drop 1).take 8) := by unfold getN; rw [if_pos e1]; rfl
      rw [e1, e2] at hg
      have hf2 := fun w1 (hB : Below w.heap.size w w1) => rsum_any A2 32 (c - 9) (bs.drop 9) w1 (q2 w1 bs (r.below hB)) (Nat.le_refl _)
      have hlen0 : (((bs.drop 9).take 32).map (Value.int .u8)).length = 32 := by have := r.len; simp; omega
      have hbu := build_puz (bs[0]?.getD 0) (told ((bs.drop 1).take 8)) (((bs.drop 9).take 32).map (Value.int .u8)) hlen0
      have hone : ∀ v ∈ puzC bs, v.oneCell' = true := puz_one
      have hlen : (puzC bs).length = 34 := by
        have : (puzC bs).length = 2 + (((bs.drop 9).take 32).map (Value.int .u8)).length := by simp [puzC]; omega
        rw [this, hlen0]
      rw [show [Value.int .u8 (bs[0]?.getD 0), Value.int .u64 (told ((bs.drop 1).take 8))] ++ ((bs.drop 9).take 32).map (Value.int .u8) = puzC bs from rfl] at hbu
      generalize puzC bs = V at hbu hone hlen ⊢
      generalize ((bs.drop 9).take 32).map (Value.int .u8) = V2 at hf2 hbu hlen0
      generalize told ((bs.drop 1).take 8) = y at hg hbu
      generalize bs[0]?.getD 0 = x at c0 hbu hx HYES ⊢
      have HCX : Hid (∀ W, Below w.heap.size w W → W.cell? ⟨b, off, none⟩ = some (.int .u8 x)) := Lib.hid (fun w1 hB => (hB.cell (p := ⟨b, off, none⟩) hb).trans c0)
      have HF1 := Lib.hid hg
      have HF2 := Lib.hid hf2
      have HSL2 := Lib.hid q1
      have HBU := Lib.hid hbu
      have HONE := Lib.hid hone
      have HLEN := Lib.hid hlen
      have HSZ : Hid ((Tryz.prog.info? 29).map (·.size) = some V.length) := Lib.hid (by rw [hlen]; exact size_puz)
      have s1' : ∀ W, (Instr.slice 22 (.slice (some ⟨b, off, none⟩) 41 c) (some (.int .i64 1)) none none).run Tryz.prog W = .ok (.slice A1 40 (c - 1)) W := fun W => s1 W
      have f2 : ((12 : Int) < x) = False := eq_false (by omega)
      generalize zPUZ = Z at HAL HBLD HZ1 HZL HSZZ ⊢
      clear hS hg hf2 s1 s2 s3 q1 q2 q3 r hbu hone hlen hlen0 hc e1 e2 c0 hx
      go_enter Tryz.func11, Tryz.ntmps11
      go_upto_region 0 with fail
      refine wp_region_lit ?_
      refine wpList_allocT (o := ⟨some 2, .alloc 29, _, _, _, _⟩) rfl 29 Z (fun W => HAL.out W _ rfl _) ?_; intro w1 HK1 HB1
      rw [HS.out] at HK1 ⊢
      have d00 := HCX.out w1 HB1.out
      go_wp2_with fail
      refine (HF1.out _ HB1.out).mono ?_; rintro e w2 ⟨rfl, hB2⟩
      have HK2 : Hid (Blk w2 S 29 Z) := Lib.hid (HK1.out.below hB2 HK1.out.lt)
      have HB2 := Lib.hid (HB1.out.trans (hB2.mono HB1.out.size))
      have HB2d := Lib.hid (show Below w.heap.size w w2.drew from ⟨HB2.out.os, HB2.out.tape, HB2.out.output, HB2.out.size, HB2.out.block⟩)
      clear hB2 d00
      have d0 := HCX.out w2 HB2.out
      go_upto_region 4 with fail
      refine wp_region_noPanic ?_
      refine wp_region_held_drew (S := (fun w' => w'.cell? ⟨b, off, none⟩ = some (.int .u8 x))) (by kernel_rfl) ?_ (fun hHeld => ?_)
      · ((try dsimp only) <;> (first | assumption | (go_keep; done)))
      refine wpAnyH_take (i := 0) (oi := ⟨some 22, _, _, _, _, _⟩) (v := ?_) rfl (by kernel_rfl) (by kernel_rfl) (by kernel_rfl) (fun _ _ _ h => False.elim h) (Or.inl ⟨by rfl, ?_⟩) (by assumption) ?_
      rotate_left
      · intro w hSw
        (try dsimp only at hSw)
        go_simp
        all_goals with_reducible rfl
      (try simp only [Act.put, List.setIfInBounds_toArray, List.set_cons_zero, List.set_cons_succ])
      refine wpAnyH_take (i := 1) (oi := ⟨some 23, _, _, _, _, _⟩) (v := ?_) rfl (by kernel_rfl) (by kernel_rfl) (by kernel_rfl) (fun _ _ _ h => False.elim h) (Or.inl ⟨by rfl, ?_⟩) (by assumption) ?_
      rotate_left
      · intro w hSw
        (try dsimp only at hSw)
        go_simp
        all_goals with_reducible rfl
      (try simp only [Act.put, List.setIfInBounds_toArray, List.set_cons_zero, List.set_cons_succ])
      refine wpAnyH_take (i := 2) (oi := ⟨some 24, _, _, _, _, _⟩) (v := ?_) rfl (by kernel_rfl) (by kernel_rfl) (by kernel_rfl) (fun _ _ _ h => False.elim h) (Or.inl ⟨by rfl, ?_⟩) (by assumption) ?_
      rotate_left
      · intro w hSw
        (try dsimp only at hSw)
        go_simp
        all_goals with_reducible rfl
      (try simp only [Act.put, List.setIfInBounds_toArray, List.set_cons_zero, List.set_cons_succ])
      refine wpAnyH_take (i := 3) (oi := ⟨some 25, _, _, _, _, _⟩) (v := ?_) rfl (by kernel_rfl) (by kernel_rfl) (by kernel_rfl) (fun _ _ _ h => False.elim h) (Or.inl ⟨by rfl, ?_⟩) (by assumption) ?_
      rotate_left
      · intro w hSw
        (try dsimp only at hSw)
        go_simp
        all_goals with_reducible rfl
      (try simp only [Act.put, List.setIfInBounds_toArray, List.set_cons_zero, List.set_cons_succ])
      refine wpAnyH_take (i := 4) (oi := ⟨some 26, _, _, _, _, _⟩) (v := ?_) rfl (by kernel_rfl) (by kernel_rfl) (by kernel_rfl) (fun _ _ _ h => False.elim h) (Or.inl ⟨by rfl, ?_⟩) (by assumption) ?_
      rotate_left
      · intro w hSw
        (try dsimp only at hSw)
        go_simp
        all_goals with_reducible rfl
      (try simp only [Act.put, List.setIfInBounds_toArray, List.set_cons_zero, List.set_cons_succ])
      refine wpAnyH_take (i := 5) (oi := ⟨some 27, _, _, _, _, _⟩) (v := .slice A2 32 (c - 9)) rfl (by kernel_rfl) (by kernel_rfl) (by kernel_rfl) (fun _ _ _ h => False.elim h) ?_ (by assumption) ?_
      · exact yieldsIf_sliceG (by rfl) 22 _ _ _ _ rfl _ 5 Tryz.underlying22 (fun W => by simpa [Act.eval, Act.put] using HSL2.out W)
      (try simp only [Act.put, List.setIfInBounds_toArray, List.set_cons_zero, List.set_cons_succ])
      refine wpAnyH_ready (rs := [6]) (by kernel_rfl) (by simp) ?_
      refine AllReadyH.cons (o := ⟨some 28, _, _, _, _, _⟩) rfl (fun K hK => ?_) AllReadyH.nil
      go_simp
      (refine (HF2.out _ HB2d.out).mono ?_; rintro e w3 ⟨rfl, hB3⟩; have HK3 : Hid (Blk w3 S 29 Z) := Lib.hid (HK2.out.drew.below hB3 HK2.out.drew.lt); have HB3 := Lib.hid (HB2d.out.trans (hB3.mono HB2d.out.size)); clear hB3; have d1 := HCX.out w3 HB3.out)
      (try go_wp2_with fail)
      refine hK.out _ _ ?_ (fun hHeld => ?_)
      · ((try dsimp only) <;> (first | assumption | (go_keep; done)))
      clear hK K
      (try simp only [Act.put, List.setIfInBounds_toArray, List.set_cons_zero, List.set_cons_succ])
      refine wpAnyH_take (i := 7) (oi := ⟨some 29, _, _, _, _, _⟩) (v := .agg V.toArray) rfl (by kernel_rfl) (by kernel_rfl) (by kernel_rfl) (fun _ _ _ h => False.elim h) ?_ (by assumption) ?_
      · exact yieldsIf_buildG (by rfl) 29 _ rfl _ (fun W => by simpa [Act.eval, Act.put] using HBU.out W)
      (try simp only [Act.put, List.setIfInBounds_toArray, List.set_cons_zero, List.set_cons_succ])
      refine wpAnyH_ready (rs := [8]) (by kernel_rfl) (by simp) ?_
      refine AllReadyH.cons (o := ⟨none, _, _, _, _, _⟩) rfl (fun K hK => ?_) AllReadyH.nil
      (refine step_overT rfl 29 _ _ rfl S V Z 29 rfl rfl HK3.out (by rw [HLEN.out, HZL.out]) HSZ.out HONE.out ?_; intro w4 HK4 hk4; have HB4 := Lib.hid (below_keeps HB3.out hk4.out (Nat.le_refl _) (fun i hi => by rw [hi]; exact HSW.out)); clear hk4; have d2 := HCX.out w4 HB4.out)
      refine hK.out _ _ ?_ (fun hHeld => ?_)
      · ((try dsimp only) <;> (first | assumption | (go_keep; done)))
      clear hK K
      (try simp only [Act.put, List.setIfInBounds_toArray, List.set_cons_zero, List.set_cons_succ])
      refine wpAnyH_take (i := 9) (oi := ⟨some 3, _, _, _, _, _⟩) (v := ?_) rfl (by kernel_rfl) (by kernel_rfl) (by kernel_rfl) (fun _ _ _ h => False.elim h) (Or.inl ⟨by rfl, ?_⟩) (by assumption) ?_
      rotate_left
      · intro w hSw
        (try dsimp only at hSw)
        go_simp
        all_goals with_reducible rfl
      (try simp only [Act.put, List.setIfInBounds_toArray, List.set_cons_zero, List.set_cons_succ])
      refine wpAnyH_done (by kernel_rfl) ?_ _
      refine NoPanic.normal ?_
      go_wp2_with fail
      refine bodyPost_ret (results_row_tmp rfl _ _ S V _ rfl HK4.out HU.out rfl HSZ.out) rfl ?_
      exact ⟨.inl ⟨HYES.out, rfl⟩, HB4.out⟩
    · have HNO : Hid (¬ ((41 : Nat) = 41 ∧ decide (bs[0]?.getD 0 ≤ 12) = true)) := Lib.hid (fun hh => hx (of_decide_eq_true hh.2))
      generalize puzC bs = V
      generalize bs[0]?.getD 0 = x at c0 hx HNO ⊢
      have HCX : Hid (∀ W, Below w.heap.size w W → W.cell? ⟨b, off, none⟩ = some (.int .u8 x)) := Lib.hid (fun w1 hB => (hB.cell (p := ⟨b, off, none⟩) hb).trans c0)
      have f2 : ((12 : Int) < x) = True := eq_true (by omega)
      obtain ⟨C, hC⟩ : ∃ C : Prop, ((41 : Nat) = 41 ∧ decide (x ≤ 12) = true) = C := ⟨_, rfl⟩
      rw [hC] at HNO ⊢
      clear hC
      generalize zPUZ = Z at HAL HBLD HZ1 HZL HSZZ ⊢
      clear hx c0 hc hb r hS
      go_enter Tryz.func11, Tryz.ntmps11
      go_upto_region 0 with fail
      refine wp_region_lit ?_
      refine wpList_allocT (o := ⟨some 2, .alloc 29, _, _, _, _⟩) rfl 29 Z (fun W => HAL.out W _ rfl _) ?_; intro w1 HK1 HB1
      rw [HS.out] at HK1 ⊢
      have d00 := HCX.out w1 HB1.out
      go_upto_region 2 with fail
      refine wp_region_lit ?_
      refine wpList_value (o := ⟨some 15, .build 29 _, _, _, _, _⟩) (v := .agg Z.toArray) (w' := w1) rfl (by unfold execOp; simp only [Act.eval, Act.put]; simp [HBLD.out]) ?_
      refine wpList_over (o := ⟨none, .store 29 _ _, _, _, _, _⟩) rfl 29 _ _ rfl S Z Z 29 rfl rfl HK1.out rfl HSZZ.out HZ1.out ?_; intro w2 HK2 hk2
      have HB2 := Lib.hid (below_keeps HB1.out hk2.out (Nat.le_refl _) (fun i hi => by rw [hi]; exact HSW.out))
      clear hk2
      go_wp2_with fail
      refine bodyPost_ret (results_row_tmp rfl _ _ S Z _ rfl HK2.out HU.out rfl HSZZ.out) rfl ?_
      exact ⟨.inr ⟨HNO.out, rfl⟩, HB2.out⟩
  · have HNO : Hid (¬ (n = 41 ∧ decide (bs[0]?.getD 0 ≤ 12) = true)) := Lib.hid (fun hh => h hh.1)
    have f1 : ((n : Int) != 41) = true := by simp; omega
    generalize puzC bs = V
    generalize bs[0]?.getD 0 = x at HNO ⊢
    generalize zPUZ = Z at HAL HBLD HZ1 HZL HSZZ ⊢
    clear h r hS
    go_enter Tryz.func11, Tryz.ntmps11
    go_upto_region 0 with fail
    refine wp_region_lit ?_
    refine wpList_allocT (o := ⟨some 2, .alloc 29, _, _, _, _⟩) rfl 29 Z (fun W => HAL.out W _ rfl _) ?_; intro w1 HK1 HB1
    rw [HS.out] at HK1 ⊢
    go_upto_region 2 with fail
    refine wp_region_lit ?_
    refine wpList_value (o := ⟨some 15, .build 29 _, _, _, _, _⟩) (v := .agg Z.toArray) (w' := w1) rfl (by unfold execOp; simp only [Act.eval, Act.put]; simp [HBLD.out]) ?_
    refine wpList_over (o := ⟨none, .store 29 _ _, _, _, _, _⟩) rfl 29 _ _ rfl S Z Z 29 rfl rfl HK1.out rfl HSZZ.out HZ1.out ?_; intro w2 HK2 hk2
    have HB2 := Lib.hid (below_keeps HB1.out hk2.out (Nat.le_refl _) (fun i hi => by rw [hi]; exact HSW.out))
    clear hk2
    go_wp2_with fail
    refine bodyPost_ret (results_row_tmp rfl _ _ S Z _ rfl HK2.out HU.out rfl HSZZ.out) rfl ?_
    exact ⟨.inr ⟨HNO.out, rfl⟩, HB2.out⟩
end Go.Proofs.YtgecfcdafbedaaaGreat
