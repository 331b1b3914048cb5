/- The law SpotsAnew: the walk. (Printed by wip/mksla.py.) -/
import Derived.Test.YtanpbimamdjdfaaSAlive
import Derived.Test.YtanpbimamdjdfaaOpen
namespace Go.Proofs.Ytanpbimamdjdfaa
open Go.RowKit Go.ChangeShapes Go.WideShapes
set_option linter.unusedSimpArgs false
set_option linter.unusedVariables false

section
variable {P : Program} {ops : Array Oper} {rest : List Oper} {o : Oper} {a : Act} {w : World} {Q : Exit → Act → World → Prop}
theorem wpList_wantS {w' : World} {v : Value} (hw : Region.wanted o (yielded ops a.tmps) = true) (hr : (execOp a.eval o).run P w = .ok (.value v) w') (h : wpList P ops Q rest (a.put o.dst v) w') : wpList P ops Q (o :: rest) a w := by
  rw [wpList, if_pos hw]
  exact .inl (by unfold Oper.wp; rw [hr]; exact h)
theorem wpList_readS {v : Value} (hw : Region.wanted o (yielded ops a.tmps) = true) (hr : (execOp a.eval o).run P w = .ok (.value v) w) (h : wpList P ops Q rest (a.put o.dst v) w) : wpList P ops Q (o :: rest) a w := wpList_wantS hw hr h
theorem exec_loadS {ty : TypeId} {x : Operand} (ho : o.op = .load ty x) (b off : Nat) (hx : a.eval x = .pointer (some ⟨b, off, none⟩)) (cs : List Value) (d : TypeDesc) (hc : w.rangeAt b off cs)
    (hu : P.underlying ty = some d) (hd : d.isRow = true) (hi : (P.info? ty).map (·.size) = some cs.length) : (execOp a.eval o).run P w = .ok (.value (.agg cs.toArray)) w := by
  unfold execOp
  simp only [ho, hx, Instr.loadAt, Instr.sureAddr, Sem.run_bind, Sem.run_pure, Result.andThen_ok, run_loadVar_mid w b off ty cs d hc hu hd hi]
end
theorem range_sums {W : World} {B : Nat} {t : TypeId} {X1 X2 : List Value} (h1 : X1.length = 32) (h : Blk W B t (X1 ++ X2)) : W.rangeAt B 0 X1 ∧ W.rangeAt B 32 X2 := by
  refine ⟨fun j v hj => ?_, fun j v hj => ?_⟩
  · have hl := (List.getElem?_eq_some_iff.1 hj).1
    rw [Nat.zero_add, h.cell, List.getElem?_append_left hl]; exact hj
  · rw [h.cell, List.getElem?_append_right (by omega), h1, show 32 + j - 32 = j by omega]; exact hj
theorem rd_blkS {w : World} {g n : Nat} {t : TypeId} {xs : List Int} (h : Blk w g t (xs.map (Value.int .u32))) (hl : xs.length = n) (hn : n ≤ 140737488351232) (hb : ∀ x ∈ xs, 0 ≤ x ∧ x ≤ 4294967295) : Rd w .u32 (some ⟨g, 0, none⟩) n xs :=
  ⟨hl, hn, fun x hx => wf_of_u32S (hb x hx), fun h0 => ⟨_, 0, rfl, h.lt, fun j hj => by rw [Nat.zero_add]; exact h.int_at j (by omega)⟩⟩
theorem others_of {f o : Int} (h1 : (f == o) = false) : othersL [⟨f, 2, none⟩] [o, f] = [o] := by
  unfold othersL
  rw [List.filter_cons_of_pos (by simp [isAt, h1]), List.filter_cons_of_neg (by simp [isAt])]
  rfl
set_option maxRecDepth 100000 in
set_option maxHeartbeats 16000000 in
theorem anew_at (f o : Int) (s0 s1 : List Int) (w : World) (hf : 0 ≤ f ∧ f ≤ 4294967295) (ho : 0 ≤ o ∧ o ≤ 4294967295) (h0 : s0.length = 32) (h1 : s1.length = 32) :
    Calls Try.prog 4 #[.int .u32 f, .int .u32 o, .agg ((s0.map (Value.int .u8)) ++ (s1.map (Value.int .u8))).toArray] w fun e w' => e = .returned (.bool true) ∧ Below w.heap.size w w' := by
  obtain ⟨cs, hcs⟩ : ∃ cs, ((s0.map (Value.int .u8)) ++ (s1.map (Value.int .u8))).toArray = cs := ⟨_, rfl⟩
  have hk0 := Blk.new w 41 ((s0.map (Value.int .u8)) ++ (s1.map (Value.int .u8)))
  rw [hcs] at hk0 ⊢
  have hB0 := new_belowS w (.cells cs 41)
  obtain ⟨w0, hw0⟩ : ∃ w0, w.alloc (.cells cs 41) = w0 := ⟨_, rfl⟩
  rw [hw0] at hk0 hB0
  obtain ⟨BX, hBX⟩ : ∃ B, w.heap.size = B := ⟨_, rfl⟩
  have HW0 := Lib.hid hw0
  have HBX := Lib.hid hBX
  rw [hBX] at hk0
  have HX0 := Lib.hid hk0
  have HB0' := Lib.hid hB0
  have HL0' := Lib.hid h0
  have HL0 : Hid ((s0.map (Value.int .u8)).length = 32) := Lib.hid (by simp [h0])
  have HL1' := Lib.hid h1
  have HF := Lib.hid hf
  have HO := Lib.hid ho
  have HU := Lib.hid Try.underlying40
  have HSZ0 : Hid ((Try.prog.info? 40).map (·.size) = some (s0.map (Value.int .u8)).length) := Lib.hid (by rw [List.length_map, h0]; kernel_rfl)
  have HSZ1 : Hid ((Try.prog.info? 40).map (·.size) = some (s1.map (Value.int .u8)).length) := Lib.hid (by rw [List.length_map, h1]; kernel_rfl)
  have HEQ := Lib.hid (fun W => sum_eq s0 s1 h0 h1 W)
  clear hcs hk0 hB0 hw0 hBX hf ho h0 h1
  by_cases hz : f = 0
  · subst hz
    go_enter Try.func4, Try.ntmps4
    go_wp2_with fail
    rw [HW0.out, HBX.out]
    refine (new_zero w0).mono ?_; rintro e w' ⟨rfl, rfl⟩
    go_wp2_with fail
    refine (aliveS_true w0).mono ?_; rintro e w1 ⟨rfl, hB⟩
    have HB1 := Lib.hid (HB0'.out.trans (hB.mono HB0'.out.size))
    clear hB
    go_wp2_with fail
    refine (aliveS_true w1).mono ?_; rintro e w2 ⟨rfl, hB⟩
    have HB2 := Lib.hid (HB1.out.trans (hB.mono HB1.out.size))
    clear hB
    go_wp2_with fail
    go_ret
    exact ⟨rfl, HB2.out⟩
  have hf1 : 1 ≤ f ∧ f ≤ 4294967295 := by have := HF.out; omega
  have HNEW := Lib.hid (new_any f w0 hf1)
  have HF0 := Lib.hid hz
  clear hf1 hz
  go_enter Try.func4, Try.ntmps4
  go_wp2_with fail
  rw [HW0.out, HBX.out]
  refine HNEW.out.mono ?_; rintro e w1 ⟨p, g, rfl, hp, hg, hS, hB⟩
  have HpB := Lib.hid (Nat.le_trans HB0'.out.size hp)
  have HgB := Lib.hid (Nat.le_trans HB0'.out.size hg)
  have HX1 := Lib.hid (HX0.out.below hB HX0.out.lt)
  have HB1 := Lib.hid (HB0'.out.trans (hB.mono HB0'.out.size))
  have HS1' := Lib.hid hS
  clear hp hg hS hB
  go_wp2_with fail
  refine (aliveS_true w1).mono ?_; rintro e w2 ⟨rfl, hB⟩
  have HS2 := Lib.hid (HS1'.out.below hB)
  have HBX_2 := Lib.hid (HX1.out.below hB HX1.out.lt)
  have HB2 := Lib.hid (HB1.out.trans (hB.mono HB1.out.size))
  clear hB HX1 HS1'
  by_cases hsmall : o = 0 ∨ o = f
  · by_cases ho0 : o = 0
    · have hq : (o == 0) = true := beq_iff_eq.2 ho0
      clear hsmall ho0
      go_wp2_with fail
      refine (aliveS_true w2).mono ?_; rintro e w3 ⟨rfl, hB⟩
      have HB3 := Lib.hid (HB2.out.trans (hB.mono HB2.out.size))
      clear hB
      go_wp2_with fail
      go_ret
      exact ⟨rfl, HB3.out⟩
    · have hq : (o == 0) = false := beq_eq_false_iff_ne.2 ho0
      have hq2 : (o == f) = true := beq_iff_eq.2 (by omega)
      clear hsmall ho0
      go_wp2_with fail
      refine (aliveS_true w2).mono ?_; rintro e w3 ⟨rfl, hB⟩
      have HB3 := Lib.hid (HB2.out.trans (hB.mono HB2.out.size))
      clear hB
      go_wp2_with fail
      go_ret
      exact ⟨rfl, HB3.out⟩
  have hq : (o == 0) = false := beq_eq_false_iff_ne.2 (by omega)
  have hq2 : (o == f) = false := beq_eq_false_iff_ne.2 (by omega)
  have HNE := Lib.hid (show o ≠ 0 ∧ o ≠ f by omega)
  clear hsmall
  by_cases hss : s0 = s1
  · have HEQ' : Hid (∀ W, Sem.run Try.prog (Op.equalIn 10000 40 (.agg (s0.map (Value.int .u8)).toArray) (.agg (s1.map (Value.int .u8)).toArray)) W = .ok true W) := Lib.hid (fun W => by rw [HEQ.out W, beq_iff_eq.2 hss])
    clear hss
    go_wp2_with (first | ((with_reducible refine wpList_isS (o := ⟨some 49, .load _ _, _, _, _, _⟩) ?_); refine wpList_wantS (v := .agg (s0.map (Value.int .u8)).toArray) (by rfl) (exec_loadS rfl BX 0 rfl (s0.map (Value.int .u8)) _ (range_sums HL0.out HBX_2.out).1 HU.out rfl HSZ0.out) ?_) | ((with_reducible refine wpList_isS (o := ⟨some 51, .load _ _, _, _, _, _⟩) ?_); refine wpList_wantS (v := .agg (s1.map (Value.int .u8)).toArray) (by rfl) (exec_loadS rfl BX 32 rfl (s1.map (Value.int .u8)) _ (range_sums HL0.out HBX_2.out).2 HU.out rfl HSZ1.out) ?_) | ((with_reducible refine wpList_isS (o := ⟨some 52, .binOp _ _ _ _ _, _, _, _, _⟩) ?_); refine wpList_wantS (v := .bool true) (by rfl) (exec_eqlS (s0.map (Value.int .u8)).toArray (s1.map (Value.int .u8)).toArray true rfl rfl rfl nog_sumS (HEQ'.out _)) ?_))
    refine (aliveS_true w2).mono ?_; rintro e w3 ⟨rfl, hB⟩
    have HB3 := Lib.hid (HB2.out.trans (hB.mono HB2.out.size))
    clear hB
    go_wp2_with fail
    go_ret
    exact ⟨rfl, HB3.out⟩
  have hs1 : (s1 == s0) = false := beq_eq_false_iff_ne.2 (fun h => hss h.symm)
  have HEQ' : Hid (∀ W, Sem.run Try.prog (Op.equalIn 10000 40 (.agg (s0.map (Value.int .u8)).toArray) (.agg (s1.map (Value.int .u8)).toArray)) W = .ok false W) := Lib.hid (fun W => by rw [HEQ.out W, beq_eq_false_iff_ne.2 hss])
  have hs2 : (s0 == s1) = false := beq_eq_false_iff_ne.2 hss
  have hb1 : (f == o) = false := beq_eq_false_iff_ne.2 (fun h => HNE.out.2 h.symm)
  have hb2 : (o == f) = false := hq2
  have HBXp := Lib.hid (blk_ne HBX_2.out HS2.out.set (by decide))
  have HBXg := Lib.hid (blk_ne HBX_2.out HS2.out.row (by decide))
  clear hss
  go_wp2_with (first | ((with_reducible refine wpList_isS (o := ⟨some 49, .load _ _, _, _, _, _⟩) ?_); refine wpList_wantS (v := .agg (s0.map (Value.int .u8)).toArray) (by rfl) (exec_loadS rfl BX 0 rfl (s0.map (Value.int .u8)) _ (range_sums HL0.out HBX_2.out).1 HU.out rfl HSZ0.out) ?_) | ((with_reducible refine wpList_isS (o := ⟨some 51, .load _ _, _, _, _, _⟩) ?_); refine wpList_wantS (v := .agg (s1.map (Value.int .u8)).toArray) (by rfl) (exec_loadS rfl BX 32 rfl (s1.map (Value.int .u8)) _ (range_sums HL0.out HBX_2.out).2 HU.out rfl HSZ1.out) ?_) | ((with_reducible refine wpList_isS (o := ⟨some 52, .binOp _ _ _ _ _, _, _, _, _⟩) ?_); refine wpList_wantS (v := .bool false) (by rfl) (exec_eqlS (s0.map (Value.int .u8)).toArray (s1.map (Value.int .u8)).toArray false rfl rfl rfl nog_sumS (HEQ'.out _)) ?_))
  have hB0 := new_belowS w2 (.cells #[.int .u32 o, .int .u32 f] 29)
  have hkl : Blk (w2.alloc (.cells #[.int .u32 o, .int .u32 f] 29)) w2.heap.size 29 ([o, f].map (Value.int .u32)) := Blk.new w2 29 ([o, f].map (Value.int .u32))
  have hob : ∀ x ∈ [o, f], 0 ≤ x ∧ x ≤ 4294967295 := by intro x hx; simp at hx; rcases hx with rfl | rfl; exact HO.out; exact HF.out
  have HOB := Lib.hid hob
  have HSO := Lib.hid (spok2 HNE.out.1 HF0.out HNE.out.2)
  obtain ⟨LB, hLB⟩ : ∃ b, w2.heap.size = b := ⟨_, rfl⟩
  rw [hLB] at hkl ⊢
  have hr := rd_blkS (n := 2) hkl rfl (by decide) hob
  refine (change_ok (HS2.out.below hB0) _ 2 2 [o, f] hr (by omega) HSO.out [⟨o, 1, none⟩, ⟨f, 2, none⟩] [o] 1 (by simp [changeL, othersL, nowS, isAt, askE, askL, updF, backE, backL, isSum, stateOf, hb1, hb2, hs1]) (others_of hb1) rfl).mono ?_; rintro e w3 ⟨A, G1, rfl, hl, hG, hS, hK⟩
  clear hr hob hLB
  have HG1B := Lib.hid (Nat.le_trans (HB2.out.trans (hB0.mono HB2.out.size)).size hG)
  have HS3 := Lib.hid hS
  have HB3 := Lib.hid (below_keeps (HB2.out.trans (hB0.mono HB2.out.size)) hK (Nat.le_refl _) (fun i hi => by rw [hi]; exact HpB.out))
  have HBX_3 := Lib.hid ((HBX_2.out.below hB0 HBX_2.out.lt).keep hK (fun h => HBXp.out h))
  have HLBp := Lib.hid (fun h : LB = p => blk_ne hkl (HS2.out.below hB0).set (by decide) h)
  have HLB_3 := Lib.hid (hkl.keep hK (fun h => HLBp.out h))
  clear hl hG hS hK hB0 HB2 HS2 HBX_2
  clear hkl
  have HBXG1 := Lib.hid (blk_ne HBX_3.out HS3.out.row (by decide))
  have HLBG1 := Lib.hid (blk_ne HLB_3.out HS3.out.row (by decide))
  go_wp2_with (first | ((with_reducible refine wpList_isS (o := ⟨some 67, .load _ _, _, _, _, _⟩) ?_); refine wpList_wantS (v := .agg (s0.map (Value.int .u8)).toArray) (by rfl) (exec_loadS rfl BX 0 rfl (s0.map (Value.int .u8)) _ (range_sums HL0.out HBX_3.out).1 HU.out rfl HSZ0.out) ?_))
  refine (ask_at HS3.out o s0 HL0'.out 0 (by simp [changeL, othersL, nowS, isAt, askE, askL, updF, backE, backL, isSum, stateOf, hb1, hb2, hs1]) (fun X => [⟨o, 1, some (X, s0)⟩, ⟨f, 2, none⟩]) (fun X => by simp [changeL, othersL, nowS, isAt, askE, askL, updF, backE, backL, isSum, stateOf, hb1, hb2, hs1])).mono ?_; rintro e w4 ⟨X1, rfl, hS, hK⟩
  have HS4 := Lib.hid hS
  clear hS
  have HB4 := Lib.hid (below_keeps HB3.out hK (Nat.le_refl _) (fun i hi => by rw [hi]; exact HG1B.out))
  have HBX_4 := Lib.hid (HBX_3.out.keep hK (fun h => HBXG1.out h))
  have HLB_4 := Lib.hid (HLB_3.out.keep hK (fun h => HLBG1.out h))
  clear hK
  clear HB3 HBX_3 HLB_3 HS3
  go_wp2_with (first | ((with_reducible refine wpList_isS (o := ⟨some 72, .load _ _, _, _, _, _⟩) ?_); refine wpList_wantS (v := .agg (s1.map (Value.int .u8)).toArray) (by rfl) (exec_loadS rfl BX 32 rfl (s1.map (Value.int .u8)) _ (range_sums HL0.out HBX_4.out).2 HU.out rfl HSZ1.out) ?_))
  refine (ask_at HS4.out o s1 HL1'.out 0 (by simp [changeL, othersL, nowS, isAt, askE, askL, updF, backE, backL, isSum, stateOf, hb1, hb2, hs1]) (fun X => [⟨o, 1, some (X, s1)⟩, ⟨f, 2, none⟩]) (fun X => by simp [changeL, othersL, nowS, isAt, askE, askL, updF, backE, backL, isSum, stateOf, hb1, hb2, hs1])).mono ?_; rintro e w5 ⟨X2, rfl, hS, hK⟩
  have HS5 := Lib.hid hS
  clear hS
  have HB5 := Lib.hid (below_keeps HB4.out hK (Nat.le_refl _) (fun i hi => by rw [hi]; exact HG1B.out))
  have HBX_5 := Lib.hid (HBX_4.out.keep hK (fun h => HBXG1.out h))
  have HLB_5 := Lib.hid (HLB_4.out.keep hK (fun h => HLBG1.out h))
  clear hK
  clear HB4 HBX_4 HLB_4 HS4
  go_wp2_with (first | ((with_reducible refine wpList_isS (o := ⟨some 77, .load _ _, _, _, _, _⟩) ?_); refine wpList_wantS (v := .agg (s0.map (Value.int .u8)).toArray) (by rfl) (exec_loadS rfl BX 0 rfl (s0.map (Value.int .u8)) _ (range_sums HL0.out HBX_5.out).1 HU.out rfl HSZ0.out) ?_))
  refine (back_at HS5.out s0 HL0'.out 0 7 (by simp [changeL, othersL, nowS, isAt, askE, askL, updF, backE, backL, isSum, stateOf, hb1, hb2, hs1]) [⟨o, 1, some (X2, s1)⟩, ⟨f, 2, none⟩] (by simp [changeL, othersL, nowS, isAt, askE, askL, updF, backE, backL, isSum, stateOf, hb1, hb2, hs1])).mono ?_; rintro e w6 ⟨rfl, hS, hK⟩
  have HS6 := Lib.hid hS
  clear hS
  have HB6 := Lib.hid (below_keeps HB5.out hK (Nat.le_refl _) (fun i hi => by rw [hi]; exact HG1B.out))
  have HBX_6 := Lib.hid (HBX_5.out.keep hK (fun h => HBXG1.out h))
  have HLB_6 := Lib.hid (HLB_5.out.keep hK (fun h => HLBG1.out h))
  clear hK
  clear HB5 HBX_5 HLB_5 HS5
  go_wp2_with fail
  have hB0 := new_belowS w6 (.cells #[.int .u32 f] 29)
  have hkf : Blk (w6.alloc (.cells #[.int .u32 f] 29)) w6.heap.size 29 ([f].map (Value.int .u32)) := Blk.new w6 29 ([f].map (Value.int .u32))
  have hr := rd_blkS (n := 1) hkf rfl (by decide) (by intro x hx; simp at hx; rw [hx]; exact HF.out)
  refine (change_ok (HS6.out.below hB0) _ 1 1 [f] hr (by omega) (spok1 HF0.out) [⟨f, 2, none⟩] [] 0 (by simp [changeL, othersL, nowS, isAt, askE, askL, updF, backE, backL, isSum, stateOf, hb1, hb2, hs1]) (by simp [changeL, othersL, nowS, isAt, askE, askL, updF, backE, backL, isSum, stateOf, hb1, hb2, hs1]) rfl).mono ?_; rintro e w7 ⟨A2, G2, rfl, hl, hG, hS, hK⟩
  clear hr hkf
  have HG2B := Lib.hid (Nat.le_trans (HB6.out.trans (hB0.mono HB6.out.size)).size hG)
  have HS7 := Lib.hid hS
  have HB7 := Lib.hid (below_keeps (HB6.out.trans (hB0.mono HB6.out.size)) hK (Nat.le_refl _) (fun i hi => by rw [hi]; exact HpB.out))
  have HBX_7 := Lib.hid ((HBX_6.out.below hB0 HBX_6.out.lt).keep hK (fun h => HBXp.out h))
  have HLB_7 := Lib.hid ((HLB_6.out.below hB0 HLB_6.out.lt).keep hK (fun h => HLBp.out h))
  clear hl hG hS hK hB0 HB6 HS6 HBX_6 HLB_6
  have HBXG2 := Lib.hid (blk_ne HBX_7.out HS7.out.row (by decide))
  have HLBG2 := Lib.hid (blk_ne HLB_7.out HS7.out.row (by decide))
  go_wp2_with fail
  have hB0 := Below.refl w7.heap.size w7
  have hr := rd_blkS (n := 2) HLB_7.out rfl (by decide) HOB.out
  refine (change_ok (HS7.out.below hB0) _ 2 2 [o, f] hr (by omega) HSO.out [⟨o, 1, none⟩, ⟨f, 2, none⟩] [o] 1 (by simp [changeL, othersL, nowS, isAt, askE, askL, updF, backE, backL, isSum, stateOf, hb1, hb2, hs1]) (others_of hb1) rfl).mono ?_; rintro e w8 ⟨A3, G3, rfl, hl, hG, hS, hK⟩
  clear hr
  have HG3B := Lib.hid (Nat.le_trans (HB7.out.trans (hB0.mono HB7.out.size)).size hG)
  obtain ⟨N3, cN3, rfl, hN3B, hkN3, hcN3⟩ := hl.one
  have HN3_8 := Lib.hid hkN3
  have HCN3 := Lib.hid hcN3
  have HN3p := Lib.hid (blk_ne hkN3 hS.set (by decide))
  have HS8 := Lib.hid hS
  have HB8 := Lib.hid (below_keeps (HB7.out.trans (hB0.mono HB7.out.size)) hK (Nat.le_refl _) (fun i hi => by rw [hi]; exact HpB.out))
  have HBX_8 := Lib.hid ((HBX_7.out.below hB0 HBX_7.out.lt).keep hK (fun h => HBXp.out h))
  have HLB_8 := Lib.hid ((HLB_7.out.below hB0 HLB_7.out.lt).keep hK (fun h => HLBp.out h))
  clear hl hG hS hK hB0 HB7 HS7 HBX_7 HLB_7 hN3B hkN3 hcN3
  have HBXG3 := Lib.hid (blk_ne HBX_8.out HS8.out.row (by decide))
  have HLBG3 := Lib.hid (blk_ne HLB_8.out HS8.out.row (by decide))
  have HN3G3 := Lib.hid (blk_ne HN3_8.out HS8.out.row (by decide))
  go_wp2_with (first | ((with_reducible refine wpList_isS (o := ⟨some 97, .load _ _, _, _, _, _⟩) ?_); refine wpList_wantS (v := .agg (s1.map (Value.int .u8)).toArray) (by rfl) (exec_loadS rfl BX 32 rfl (s1.map (Value.int .u8)) _ (range_sums HL0.out HBX_8.out).2 HU.out rfl HSZ1.out) ?_))
  refine (back_at HS8.out s1 HL1'.out 0 7 (by simp [changeL, othersL, nowS, isAt, askE, askL, updF, backE, backL, isSum, stateOf, hb1, hb2, hs1]) [⟨o, 1, none⟩, ⟨f, 2, none⟩] (by simp [changeL, othersL, nowS, isAt, askE, askL, updF, backE, backL, isSum, stateOf, hb1, hb2, hs1])).mono ?_; rintro e w9 ⟨rfl, hS, hK⟩
  have HS9 := Lib.hid hS
  clear hS
  have HB9 := Lib.hid (below_keeps HB8.out hK (Nat.le_refl _) (fun i hi => by rw [hi]; exact HG3B.out))
  have HBX_9 := Lib.hid (HBX_8.out.keep hK (fun h => HBXG3.out h))
  have HLB_9 := Lib.hid (HLB_8.out.keep hK (fun h => HLBG3.out h))
  have HN3_9 := Lib.hid (HN3_8.out.keep hK (fun h => HN3G3.out h))
  clear hK
  clear HB8 HBX_8 HLB_8 HN3_8 HS8
  go_wp2_with (first | ((with_reducible refine wpList_isS (o := ⟨some 104, .load _ _, _, _, _, _⟩) ?_); refine wpList_wantS (v := .agg (s0.map (Value.int .u8)).toArray) (by rfl) (exec_loadS rfl BX 0 rfl (s0.map (Value.int .u8)) _ (range_sums HL0.out HBX_9.out).1 HU.out rfl HSZ0.out) ?_))
  refine (ask_at HS9.out o s0 HL0'.out 0 (by simp [changeL, othersL, nowS, isAt, askE, askL, updF, backE, backL, isSum, stateOf, hb1, hb2, hs1]) (fun X => [⟨o, 1, some (X, s0)⟩, ⟨f, 2, none⟩]) (fun X => by simp [changeL, othersL, nowS, isAt, askE, askL, updF, backE, backL, isSum, stateOf, hb1, hb2, hs1])).mono ?_; rintro e w10 ⟨X3, rfl, hS, hK⟩
  have HS10 := Lib.hid hS
  clear hS
  have HB10 := Lib.hid (below_keeps HB9.out hK (Nat.le_refl _) (fun i hi => by rw [hi]; exact HG3B.out))
  have HBX_10 := Lib.hid (HBX_9.out.keep hK (fun h => HBXG3.out h))
  have HLB_10 := Lib.hid (HLB_9.out.keep hK (fun h => HLBG3.out h))
  have HN3_10 := Lib.hid (HN3_9.out.keep hK (fun h => HN3G3.out h))
  clear hK
  clear HB9 HBX_9 HLB_9 HN3_9 HS9
  go_wp2_with (first | ((with_reducible refine wpList_isS (o := ⟨some 109, .load _ _, _, _, _, _⟩) ?_); refine wpList_wantS (v := .agg (s0.map (Value.int .u8)).toArray) (by rfl) (exec_loadS rfl BX 0 rfl (s0.map (Value.int .u8)) _ (range_sums HL0.out HBX_10.out).1 HU.out rfl HSZ0.out) ?_))
  refine (back_at HS10.out s0 HL0'.out o 0 (by simp [changeL, othersL, nowS, isAt, askE, askL, updF, backE, backL, isSum, stateOf, hb1, hb2, hs1]) [⟨o, 2, some (X3, s0)⟩, ⟨f, 2, none⟩] (by simp [changeL, othersL, nowS, isAt, askE, askL, updF, backE, backL, isSum, stateOf, hb1, hb2, hs1])).mono ?_; rintro e w11 ⟨rfl, hS, hK⟩
  have HS11 := Lib.hid hS
  clear hS
  have HB11 := Lib.hid (below_keeps HB10.out hK (Nat.le_refl _) (fun i hi => by rw [hi]; exact HG3B.out))
  have HBX_11 := Lib.hid (HBX_10.out.keep hK (fun h => HBXG3.out h))
  have HLB_11 := Lib.hid (HLB_10.out.keep hK (fun h => HLBG3.out h))
  have HN3_11 := Lib.hid (HN3_10.out.keep hK (fun h => HN3G3.out h))
  clear hK
  clear HB10 HBX_10 HLB_10 HN3_10 HS10
  go_wp2_with (first | ((with_reducible refine wpList_isS (o := ⟨some 116, .load _ _, _, _, _, _⟩) ?_); refine wpList_wantS (v := .agg (s0.map (Value.int .u8)).toArray) (by rfl) (exec_loadS rfl BX 0 rfl (s0.map (Value.int .u8)) _ (range_sums HL0.out HBX_11.out).1 HU.out rfl HSZ0.out) ?_))
  refine (back_at HS11.out s0 HL0'.out 0 7 (by simp [changeL, othersL, nowS, isAt, askE, askL, updF, backE, backL, isSum, stateOf, hb1, hb2, hs1]) [⟨o, 2, some (X3, s0)⟩, ⟨f, 2, none⟩] (by simp [changeL, othersL, nowS, isAt, askE, askL, updF, backE, backL, isSum, stateOf, hb1, hb2, hs1])).mono ?_; rintro e w12 ⟨rfl, hS, hK⟩
  have HS12 := Lib.hid hS
  clear hS
  have HB12 := Lib.hid (below_keeps HB11.out hK (Nat.le_refl _) (fun i hi => by rw [hi]; exact HG3B.out))
  have HBX_12 := Lib.hid (HBX_11.out.keep hK (fun h => HBXG3.out h))
  have HLB_12 := Lib.hid (HLB_11.out.keep hK (fun h => HLBG3.out h))
  have HN3_12 := Lib.hid (HN3_11.out.keep hK (fun h => HN3G3.out h))
  clear hK
  clear HB11 HBX_11 HLB_11 HN3_11 HS11
  have q1 : w12.cell? ⟨N3, 0, none⟩ = some (.int .u32 o) := (HN3_12.out.cell 0).trans HCN3.out
  go_wp2_with (first | ((with_reducible refine wpList_isS (o := ⟨some 179, .load _ _, _, _, _, _⟩) ?_); refine wpList_wantS (v := .agg (s1.map (Value.int .u8)).toArray) (by rfl) (exec_loadS rfl BX 32 rfl (s1.map (Value.int .u8)) _ (range_sums HL0.out HBX_12.out).2 HU.out rfl HSZ1.out) ?_))
  refine (ask_at HS12.out o s1 HL1'.out 9 (by simp [changeL, othersL, nowS, isAt, askE, askL, updF, backE, backL, isSum, stateOf, hb1, hb2, hs1]) (fun X => [⟨o, 2, some (X3, s0)⟩, ⟨f, 2, none⟩]) (fun X => by simp [changeL, othersL, nowS, isAt, askE, askL, updF, backE, backL, isSum, stateOf, hb1, hb2, hs1])).mono ?_; rintro e w13 ⟨X4, rfl, hS, hK⟩
  have HS13 := Lib.hid hS
  clear hS
  have HB13 := Lib.hid (below_keeps HB12.out hK (Nat.le_refl _) (fun i hi => by rw [hi]; exact HG3B.out))
  have HBX_13 := Lib.hid (HBX_12.out.keep hK (fun h => HBXG3.out h))
  have HLB_13 := Lib.hid (HLB_12.out.keep hK (fun h => HLBG3.out h))
  have HN3_13 := Lib.hid (HN3_12.out.keep hK (fun h => HN3G3.out h))
  clear hK
  clear HB12 HBX_12 HLB_12 HN3_12 HS12
  clear q1
  go_wp2_with fail
  refine (state_at HS13.out f 2 (by simp [changeL, othersL, nowS, isAt, askE, askL, updF, backE, backL, isSum, stateOf, hb1, hb2, hs1])).mono ?_; rintro e w14 ⟨rfl, hS, hB⟩
  have HBZ := Lib.hid (HB13.out.trans (hB.mono HB13.out.size))
  clear hS hB
  go_wp2_with fail
  go_ret
  exact ⟨rfl, HBZ.out⟩
set_option maxRecDepth 100000 in
theorem spotsAnew_walk {H : Type} {enc : TypeId × Value → H} {base : Nat} {d2 : DataW H} {p2 : List MemPlace} (a0 a1 : Int) (v2 : Value) (w : World)
    (w0 : (Lit.int .u32 a0).wf = true) (w1 : (Lit.int .u32 a1).wf = true) (o2 : Value.okWide Try.prog w .any base 41 v2) (k2 : DataW.Trod enc Try.prog w 0 (fun _ => true) true 41 v2 d2 p2) (z2 : (d2.weights Try.prog 41).all (· ≤ reachBytes) = true) :
    Calls Try.prog 4 #[.int .u32 a0, .int .u32 a1, v2] w fun e w' => e = .returned (.bool true) ∧ Below w.heap.size w w' := by
  obtain ⟨cs, rfl, hs⟩ := okWide_agg (.inr ⟨_, _, Try.underlying41⟩) o2
  obtain ⟨fuel, hf⟩ := k2
  obtain ⟨hl, m, hp⟩ := open_array Try.underlying41 hf
  obtain ⟨y0, hy0, -⟩ := hp 0 (by omega)
  obtain ⟨y1, hy1, -⟩ := hp 1 (by omega)
  obtain ⟨s0, e0, l0, -⟩ := open_array_ints Try.underlying40 Try.underlying5 (by kernel_rfl) (by kernel_rfl) hy0
  obtain ⟨s1, e1, l1, -⟩ := open_array_ints Try.underlying40 Try.underlying5 (by kernel_rfl) (by kernel_rfl) hy1
  obtain ⟨cs⟩ := cs
  simp only [Value.cells] at hl e0 e1
  rw [show Try.prog.cellsOf 41 = 64 by kernel_rfl] at hl
  rw [show Try.prog.cellsOf 40 = 32 by kernel_rfl] at e0 e1
  have q1 : (cs.drop (1 * 32)).take 32 = cs.drop 32 := List.take_of_length_le (by simp [hl])
  have e : (cs.drop (0 * 32)).take 32 ++ (cs.drop (1 * 32)).take 32 = cs := by
    rw [q1]; simp
  rw [e0, e1] at e
  rw [← e]
  exact anew_at a0 a1 s0 s1 w (wf_bounds_u32 w0) (wf_bounds_u32 w1) l0 l1
end Go.Proofs.Ytanpbimamdjdfaa
