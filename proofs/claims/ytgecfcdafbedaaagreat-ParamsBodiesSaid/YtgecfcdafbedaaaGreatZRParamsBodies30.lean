/- The walks over PutLong, PutSum, PutSig; The walk over GetSolution. -/
import Derived.Test.YtgecfcdafbedaaaGreatZRParamsBodies27
import Derived.Test.YtgecfcdafbedaaaGreatZRParamsBodies29
import Derived.Test.YtgecfcdafbedaaaGreatZRParamsBodies21
import Derived.Deep.DrawnRows
import Derived.Deep.RegionHeld3
import Derived.Test.YtgecfcdafbedaaaGreatZRParamsBodies28
namespace Go.Proofs.YtgecfcdafbedaaaGreat
open Go.RowKit
set_option linter.unusedSimpArgs false
set_option linter.unusedVariables false

/-- A variable of several cells holds a parameter. -/
theorem wpList_boxT {P : Program} {ops : Array Oper} {rest : List Oper} {o : Oper} {a : Act} {w : World} {Q : Exit → Act → World → Prop} (hgd : o.guard = none) (T : TypeId) (x : Operand) (ho : o.op = .box T x) (X : List Value) (hx : a.eval x = .agg X.toArray)
    (h : ∀ w', Hid (Blk w' w.heap.size T X) → Hid (Below w.heap.size w w') → wpList P ops Q rest (a.put o.dst (.pointer (some ⟨w.heap.size, 0, none⟩))) w') : wpList P ops Q (o :: rest) a w := by
  have hr : (execOp a.eval o).run P w = .ok (.value (.pointer (some ⟨w.heap.size, 0, none⟩))) (w.alloc (.cells X.toArray T)) := by
    unfold execOp
    simp only [ho, hx]
    rfl
  exact wpList_value hgd hr (h _ (Lib.hid (Blk.new w T X)) (Lib.hid ((Below.refl _ w).alloc (Nat.le_refl _) _)))
def U64s (l : List Int) : Prop := ∀ x ∈ l, 0 ≤ x ∧ x ≤ 18446744073709551615
set_option maxRecDepth 100000 in
set_option maxHeartbeats 2000000 in
theorem putLong_any (a b c d : Int) (w : World) (hu : U64s [a, b, c, d]) :
    Calls Tryz.prog 33 #[longVal a b c d] w (Made w (flat [d, c, b, a] 8)) := by
  obtain ⟨S, hS⟩ : ∃ S, w.heap.size = S := ⟨_, rfl⟩
  have HS := Lib.hid hS
  have hp := fun w1 => putlong_any none 0 0 [] a b c d w1 ⟨rfl, by omega, fun x hx => by simp at hx, fun h => by omega⟩ (Nat.le_refl _) (hu a (by simp)) (hu b (by simp)) (hu c (by simp)) (hu d (by simp))
  have hX : longVal a b c d = .agg ([Value.int .u64 a, Value.int .u64 b, Value.int .u64 c, Value.int .u64 d] : List Value).toArray := rfl
  simp only [List.nil_append] at hp
  rw [hX] at hp ⊢
  have hsz : (Tryz.prog.info? 31).map (·.size) = some ([Value.int .u64 a, Value.int .u64 b, Value.int .u64 c, Value.int .u64 d] : List Value).length := size_num
  generalize ([Value.int .u64 a, Value.int .u64 b, Value.int .u64 c, Value.int .u64 d] : List Value) = X at hp hsz ⊢
  generalize flat [d, c, b, a] 8 = B at hp ⊢
  have HP := Lib.hid hp
  have HSZ := Lib.hid hsz
  have HU := Lib.hid Tryz.underlying31
  clear hS hp hX hsz hu
  go_enter Tryz.func33, Tryz.ntmps33
  go_upto_region 0 with fail
  refine wp_region_lit ?_
  refine wpList_boxT (o := ⟨some 1, .box 31 _, _, _, _, _⟩) rfl 31 _ rfl X rfl ?_; intro w1 HK1 HB1
  rw [HS.out] at HK1 ⊢
  go_upto_region 1 with fail
  refine wp_region_lit ?_
  refine wpList_loadT (o := ⟨some 3, .load 31 _, _, _, _, _⟩) rfl 31 _ rfl S rfl 31 X _ HK1.out HU.out rfl HSZ.out ?_
  go_wp2_with fail
  refine (HP.out w1).mono ?_; rintro e w2 ⟨g, hg, rfl, hk, hB⟩
  have HF := Lib.hid (show w.heap.size ≤ g ∧ Blk w2 g _ _ ∧ Below w.heap.size w w2 from ⟨Nat.le_trans HB1.out.size hg, hk, HB1.out.trans (hB.mono HB1.out.size)⟩)
  clear hg hk hB
  go_wp2_with fail
  refine (clip_all (some ⟨g, 0, none⟩) _ _ w2 (Nat.le_refl _)).mono ?_; rintro e w3 ⟨rfl, rfl⟩
  go_wp2_with fail
  go_ret
  exact ⟨g, HF.out.1, rfl, HF.out.2.1, HF.out.2.2⟩
theorem flat_byteB {l : List Int} {k : Nat} : ∀ x ∈ flat l k, 0 ≤ x ∧ x ≤ 255 := fun x hx => by
  unfold flat at hx
  rw [List.mem_flatMap] at hx
  obtain ⟨y, _, h⟩ := hx
  exact be_byte k y x h
theorem range_two {w : World} {g o : Nat} {X1 X2 : List Value} (h : w.rangeAt g o (X1 ++ X2)) : w.rangeAt g o X1 ∧ w.rangeAt g (o + X1.length) X2 := by
  refine ⟨fun j v hv => h j v ?_, fun j v hv => ?_⟩
  · have : j < X1.length := (List.getElem?_eq_some_iff.1 hv).1
    rw [List.getElem?_append_left this]; exact hv
  · have := h (X1.length + j) v (by rw [List.getElem?_append_right (by omega)]; simpa using hv)
    rw [← Nat.add_assoc] at this
    exact this
theorem own_lowerB {w : World} {base base' : Nat} {e : TypeId} {size n : Nat} {v : Value} {xs : List Value} (h : w.ownsRow base e size v n xs) (hb : base' ≤ base) : w.ownsRow base' e size v n xs := by
  refine ⟨h.1, ?_⟩
  rcases h.2 with h1 | ⟨g, cap, cur, h1, h2, h3⟩
  · exact .inl h1
  · exact .inr ⟨g, cap, cur, h1, Nat.le_trans hb h2, h3⟩
/-- The cells of a value. -/
def u8V (bs : List Int) : Value := .agg (bs.map (Value.int .u8)).toArray
set_option maxRecDepth 100000 in
set_option maxHeartbeats 2000000 in
theorem putSum_any (bs : List Int) (w : World) (hl : bs.length = 32) (hb : ∀ x ∈ bs, 0 ≤ x ∧ x ≤ 255) :
    Calls Tryz.prog 35 #[u8V bs] w fun e w' => ∃ A c, e = .returned (.slice A 32 c) ∧ 32 ≤ c ∧ w'.ownsRow w.heap.size 5 1 (.slice A 32 c) 32 (bs.map (Value.int .u8)) ∧ (A = none → c = 0) ∧ Below w.heap.size w w' := by
  obtain ⟨S, hS⟩ : ∃ S, w.heap.size = S := ⟨_, rfl⟩
  have HS := Lib.hid hS
  have HSL := Lib.hid (slice_sum S)
  have HBB := Lib.hid hb
  have HL := Lib.hid hl
  unfold u8V
  obtain ⟨X, hX⟩ : ∃ X, bs.map (Value.int .u8) = X := ⟨_, rfl⟩
  rw [hX]
  have HX := Lib.hid hX
  clear hS hb hl hX
  go_enter Tryz.func35, Tryz.ntmps35
  go_upto_region 0 with fail
  refine wp_region_lit ?_
  refine wpList_boxT (o := ⟨some 1, .box 27 _, _, _, _, _⟩) rfl 27 _ rfl X rfl ?_; intro w1 HK1 HB1
  rw [HS.out] at HK1 ⊢
  have HR1 : Hid (Rd w1 .u8 (some ⟨S, 0, none⟩) 32 bs) := Lib.hid (rd_of_blk (by rw [HX.out]; exact HK1.out) HBB.out HL.out (by omega))
  have HC := Lib.hid (clone_any (some ⟨S, 0, none⟩) 32 32 bs w1 HR1.out (Nat.le_refl _) (fun h => by cases h))
  go_upto_region 1 with fail
  refine wp_region_lit ?_
  refine wpList_value (o := ⟨some 3, .slice 27 _ _ _ _, _, _, _, _⟩) (v := .slice (some ⟨S, 0, none⟩) 32 32) (w' := w1) rfl (exec_sliceB rfl (HSL.out w1)) ?_
  go_wp2_with fail
  refine HC.out.mono ?_; rintro e w2 ⟨A, c, rfl, h1, h2, h3, h4⟩
  have HF := Lib.hid (show 32 ≤ c ∧ w2.ownsRow w.heap.size 5 1 (.slice A 32 c) 32 X ∧ (A = none → c = 0) ∧ Below w.heap.size w w2 from ⟨h1, own_lowerB (by rw [← HX.out]; exact h2) HB1.out.size, h3, HB1.out.trans (h4.mono HB1.out.size)⟩)
  clear h1 h2 h3 h4
  go_wp2_with fail
  go_ret
  exact ⟨A, c, rfl, HF.out⟩
def sigV (x y : List Int) : Value := .agg ((x ++ y).map (Value.int .u64)).toArray
set_option maxRecDepth 100000 in
set_option maxHeartbeats 4000000 in
theorem putSig_any (a b c d a' b' c' d' : Int) (w : World) (hu : U64s [a, b, c, d]) (hu' : U64s [a', b', c', d']) :
    Calls Tryz.prog 37 #[sigV [a, b, c, d] [a', b', c', d']] w (Made w (flat [d, c, b, a] 8 ++ flat [d', c', b', a'] 8)) := by
  obtain ⟨S, hS⟩ : ∃ S, w.heap.size = S := ⟨_, rfl⟩
  have HS := Lib.hid hS
  have hp := fun w1 => putlong_any none 0 0 [] a b c d w1 ⟨rfl, by omega, fun x hx => by simp at hx, fun h => by omega⟩ (Nat.le_refl _) (hu a (by simp)) (hu b (by simp)) (hu c (by simp)) (hu d (by simp))
  have hfl : (flat [d, c, b, a] 8).length = 32 := by simp [flat_length]
  have hflb : ∀ x ∈ flat [d, c, b, a] 8, 0 ≤ x ∧ x ≤ 255 := flat_byteB
  have hp2 := fun w1 g (r : Rd w1 .u8 (some ⟨g, 0, none⟩) 32 (flat [d, c, b, a] 8)) => putlong_any (some ⟨g, 0, none⟩) 32 32 (flat [d, c, b, a] 8) a' b' c' d' w1 r (Nat.le_refl _) (hu' a' (by simp)) (hu' b' (by simp)) (hu' c' (by simp)) (hu' d' (by simp))
  have hX1 : longVal a b c d = .agg ([Value.int .u64 a, Value.int .u64 b, Value.int .u64 c, Value.int .u64 d] : List Value).toArray := rfl
  have hX2 : longVal a' b' c' d' = .agg ([Value.int .u64 a', Value.int .u64 b', Value.int .u64 c', Value.int .u64 d'] : List Value).toArray := rfl
  have hXX : sigV [a, b, c, d] [a', b', c', d'] = .agg (([Value.int .u64 a, Value.int .u64 b, Value.int .u64 c, Value.int .u64 d] : List Value) ++ ([Value.int .u64 a', Value.int .u64 b', Value.int .u64 c', Value.int .u64 d'] : List Value)).toArray := rfl
  simp only [List.nil_append] at hp
  rw [hX1] at hp
  rw [hX2] at hp2
  rw [hXX]
  have hsz1 : (Tryz.prog.info? 31).map (·.size) = some ([Value.int .u64 a, Value.int .u64 b, Value.int .u64 c, Value.int .u64 d] : List Value).length := size_num
  have hsz2 : (Tryz.prog.info? 31).map (·.size) = some ([Value.int .u64 a', Value.int .u64 b', Value.int .u64 c', Value.int .u64 d'] : List Value).length := size_num
  have hl4 : ([Value.int .u64 a, Value.int .u64 b, Value.int .u64 c, Value.int .u64 d] : List Value).length = 4 := rfl
  generalize ([Value.int .u64 a, Value.int .u64 b, Value.int .u64 c, Value.int .u64 d] : List Value) = X1 at hp hsz1 hl4 ⊢
  generalize ([Value.int .u64 a', Value.int .u64 b', Value.int .u64 c', Value.int .u64 d'] : List Value) = X2 at hp2 hsz2 ⊢
  obtain ⟨B1, hB1⟩ : ∃ B, flat [d, c, b, a] 8 = B := ⟨_, rfl⟩
  obtain ⟨B2, hB2⟩ : ∃ B, flat [d', c', b', a'] 8 = B := ⟨_, rfl⟩
  rw [hB1] at hp hfl hflb
  simp only [hB1, hB2] at hp2 ⊢
  have HP := Lib.hid hp
  have HP2 := Lib.hid hp2
  have HSZ1 := Lib.hid hsz1
  have HSZ2 := Lib.hid hsz2
  have HL4 := Lib.hid hl4
  have HFL := Lib.hid hfl
  have HFB := Lib.hid hflb
  have HU := Lib.hid Tryz.underlying31
  have hrg : ∀ w1, Blk w1 S 33 (X1 ++ X2) → w1.rangeAt S 0 X1 ∧ w1.rangeAt S 4 X2 := fun w1 hk => by
    have := range_two hk.range
    rw [hl4, Nat.zero_add] at this
    exact this
  have HRG := Lib.hid hrg
  clear hS hp hp2 hX1 hX2 hXX hsz1 hsz2 hl4 hfl hflb hB1 hB2 hu hu' hrg
  go_enter Tryz.func37, Tryz.ntmps37
  go_upto_region 0 with fail
  refine wp_region_lit ?_
  refine wpList_boxT (o := ⟨some 1, .box 33 _, _, _, _, _⟩) rfl 33 _ rfl (X1 ++ X2) rfl ?_; intro w1 HK1 HB1
  rw [HS.out] at HK1 ⊢
  obtain ⟨a0, a1⟩ := HRG.out w1 HK1.out
  have HB1d := Lib.hid (show Below w.heap.size w w1.drew from ⟨HB1.out.os, HB1.out.tape, HB1.out.output, HB1.out.size, HB1.out.block⟩)
  go_upto_region 1 with fail
  refine wp_region_noPanic ?_
  refine wp_region_held_drew (S := (fun w' => w'.rangeAt S 0 X1 ∧ w'.rangeAt S 4 X2)) (by kernel_rfl) ?_ (fun hHeld => ?_)
  · ((try dsimp only); refine ⟨?_, ?_⟩ <;> (first | assumption | (go_keep; done)))
  refine wpAnyH_take (i := 0) (oi := ⟨some 3, _, _, _, _, _⟩) (v := ?_) rfl (by kernel_rfl) (by kernel_rfl) (by kernel_rfl) (fun _ _ _ h => False.elim h) (Or.inl ⟨by rfl, ?_⟩) (by assumption) ?_
  rotate_left
  · intro w hSw
    (try dsimp only at hSw)
    go_simp
    all_goals with_reducible rfl
  (try simp only [Act.put, List.setIfInBounds_toArray, List.set_cons_zero, List.set_cons_succ])
  refine wpAnyH_take (i := 1) (oi := ⟨some 4, _, _, _, _, _⟩) (v := .agg X1.toArray) rfl (by kernel_rfl) (by kernel_rfl) (by kernel_rfl) (fun _ _ _ h => False.elim h) ?_ (by assumption) ?_
  · refine yieldsIf_load_mid ?_ 31 _ rfl S 0 rfl X1 _ ?_ HU.out rfl HSZ1.out
    · rfl
    · (intro w hSw; (try dsimp only at hSw); go_split_ands; assumption)
  (try simp only [Act.put, List.setIfInBounds_toArray, List.set_cons_zero, List.set_cons_succ])
  refine wpAnyH_take (i := 3) (oi := ⟨some 6, _, _, _, _, _⟩) (v := ?_) rfl (by kernel_rfl) (by kernel_rfl) (by kernel_rfl) (fun _ _ _ h => False.elim h) (Or.inl ⟨by rfl, ?_⟩) (by assumption) ?_
  rotate_left
  · intro w hSw
    (try dsimp only at hSw)
    go_simp
    all_goals with_reducible rfl
  (try simp only [Act.put, List.setIfInBounds_toArray, List.set_cons_zero, List.set_cons_succ])
  refine wpAnyH_take (i := 4) (oi := ⟨some 7, _, _, _, _, _⟩) (v := .agg X2.toArray) rfl (by kernel_rfl) (by kernel_rfl) (by kernel_rfl) (fun _ _ _ h => False.elim h) ?_ (by assumption) ?_
  · refine yieldsIf_load_mid ?_ 31 _ rfl S 4 rfl X2 _ ?_ HU.out rfl HSZ2.out
    · rfl
    · (intro w hSw; (try dsimp only at hSw); go_split_ands; assumption)
  (try simp only [Act.put, List.setIfInBounds_toArray, List.set_cons_zero, List.set_cons_succ])
  refine wpAnyH_ready (rs := [2]) (by kernel_rfl) (by simp) ?_
  refine AllReadyH.cons (o := ⟨some 5, _, _, _, _, _⟩) rfl (fun K hK => ?_) AllReadyH.nil
  go_simp
  (refine (HP.out _).mono ?_; rintro e w2 ⟨g1, hg1, rfl, hk1, hB2⟩; have HK2 : Hid (Blk w2 S 33 (X1 ++ X2)) := Lib.hid (HK1.out.drew.keep (Keeps.of_below (M := fun _ => False) hB2) (fun h => h)); obtain ⟨b0, b1⟩ := HRG.out w2 HK2.out; have HB2 := Lib.hid (HB1d.out.trans (hB2.mono HB1d.out.size)); have HR2 : Hid (Rd w2 .u8 (some ⟨g1, 0, none⟩) 32 B1) := Lib.hid (rd_of_blk hk1 HFB.out HFL.out (by omega)); clear hB2 hk1 hg1; rw [HFL.out])
  (try go_wp2_with fail)
  refine hK.out _ _ ?_ (fun hHeld => ?_)
  · ((try dsimp only); refine ⟨?_, ?_⟩ <;> (first | assumption | (go_keep; done)))
  clear hK K
  (try simp only [Act.put, List.setIfInBounds_toArray, List.set_cons_zero, List.set_cons_succ])
  refine wpAnyH_ready (rs := [5]) (by kernel_rfl) (by simp) ?_
  refine AllReadyH.cons (o := ⟨some 8, _, _, _, _, _⟩) rfl (fun K hK => ?_) AllReadyH.nil
  go_simp
  (refine (HP2.out _ g1 HR2.out).mono ?_; rintro e w3 ⟨g2, hg2, rfl, hk2, hB3⟩; have HK3 : Hid (Blk w3 S 33 (X1 ++ X2)) := Lib.hid (HK2.out.keep (Keeps.of_below (M := fun _ => False) hB3) (fun h => h)); obtain ⟨d0, d1⟩ := HRG.out w3 HK3.out; have HF3 := Lib.hid (show w.heap.size ≤ g2 ∧ Blk w3 g2 _ _ ∧ Below w.heap.size w w3 from ⟨Nat.le_trans HB2.out.size hg2, hk2, HB2.out.trans (hB3.mono HB2.out.size)⟩); clear hB3 hk2 hg2)
  (try go_wp2_with fail)
  refine hK.out _ _ ?_ (fun hHeld => ?_)
  · ((try dsimp only); refine ⟨?_, ?_⟩ <;> (first | assumption | (go_keep; done)))
  clear hK K
  (try simp only [Act.put, List.setIfInBounds_toArray, List.set_cons_zero, List.set_cons_succ])
  refine wpAnyH_ready (rs := [6]) (by kernel_rfl) (by simp) ?_
  refine AllReadyH.cons (o := ⟨some 9, _, _, _, _, _⟩) rfl (fun K hK => ?_) AllReadyH.nil
  go_simp
  (refine (clip_all (some ⟨g2, 0, none⟩) _ _ w3 (Nat.le_refl _)).mono ?_; rintro e w4 ⟨rfl, rfl⟩)
  (try go_wp2_with fail)
  refine hK.out _ _ ?_ (fun hHeld => ?_)
  · ((try dsimp only); refine ⟨?_, ?_⟩ <;> (first | assumption | (go_keep; done)))
  clear hK K
  (try simp only [Act.put, List.setIfInBounds_toArray, List.set_cons_zero, List.set_cons_succ])
  refine wpAnyH_take (i := 7) (oi := ⟨some 2, _, _, _, _, _⟩) (v := ?_) rfl (by kernel_rfl) (by kernel_rfl) (by kernel_rfl) (fun _ _ _ h => False.elim h) (Or.inl ⟨by rfl, ?_⟩) (by assumption) ?_
  rotate_left
  · intro w hSw
    (try dsimp only at hSw)
    go_simp
    all_goals with_reducible rfl
  (try simp only [Act.put, List.setIfInBounds_toArray, List.set_cons_zero, List.set_cons_succ])
  refine wpAnyH_done (by kernel_rfl) ?_ _
  refine NoPanic.normal ?_
  go_wp2_with fail
  go_ret
  exact ⟨g2, HF3.out.1, (by rw [List.length_append]; rfl), HF3.out.2.1, HF3.out.2.2⟩
theorem own_of_blk {w : World} {base g : Nat} {bs : List Int} (hk : Blk w g 5 (bs.map (Value.int .u8))) (hg : base ≤ g) (hn : bs.length ≤ 140737488351232) : w.ownsRow base 5 1 (.slice (some ⟨g, 0, none⟩) bs.length bs.length) bs.length (bs.map (Value.int .u8)) :=
  ⟨by simp, .inr ⟨g, bs.length, _, rfl, hg, hk, Nat.le_refl _, by unfold maxLen; omega, by simp, by simp [List.take_of_length_le]⟩⟩
set_option maxRecDepth 100000 in
set_option maxHeartbeats 2000000 in
theorem putLane_any (x y : Int) (w : World) (hx : 0 ≤ x ∧ x ≤ 4294967295) (hy : 0 ≤ y ∧ y ≤ 4294967295) :
    Calls Tryz.prog 25 #[.int .u32 x, .int .u32 y] w fun e w' => ∃ A c, e = .returned (.slice A 8 c) ∧ 8 ≤ c ∧ w'.ownsRow w.heap.size 5 1 (.slice A 8 c) 8 ((be x 4 ++ be y 4).map (Value.int .u8)) ∧ Below w.heap.size w w' := by
  have H1 := Lib.hid (putcount_any x w hx.1 hx.2)
  have H2 := Lib.hid (fun w1 => putcount_any y w1 hy.1 hy.2)
  clear hx hy
  go_enter Tryz.func25, Tryz.ntmps25
  go_wp2_with fail
  refine H1.out.mono ?_; rintro e w1 ⟨g, hg, rfl, hk, hB⟩
  have HO1 := Lib.hid (own_of_blk (base := w.heap.size) hk hg (by rw [be_length]; omega))
  have HB1 := Lib.hid hB
  rw [be_length] at HO1 ⊢
  clear hg hk hB
  go_wp2_with fail
  refine (H2.out w1).mono ?_; rintro e w2 ⟨g2, hg2, rfl, hk2, hB2⟩
  have HO2 := Lib.hid ((Keeps.of_below (M := fun _ => False) hB2).own HO1.out (fun _ _ h => h))
  have HR2 : Hid (Rd w2 .u8 (some ⟨g2, 0, none⟩) 4 (be y 4)) := Lib.hid (rd_of_blk hk2 (be_byte 4 y) (be_length ..) (by omega))
  have HB2 := Lib.hid (HB1.out.trans (hB2.mono HB1.out.size))
  rw [be_length]
  clear hg2 hk2 hB2
  go_wp2_with (at_builtin; refine append_bytes w.heap.size rfl _ _ rfl (.slice (some ⟨g, 0, none⟩) 4 4) 4 (be x 4) rfl _ 4 4 (be y 4) rfl HR2.out (fun h => by cases h) HO2.out HB2.out.size (by omega) ?_; intro v3 w3 HO3 hk3 hat3; obtain ⟨A3, c3, rfl, hc3, -⟩ := own_slice HO3.out; have HB3 := Lib.hid (grown_below HB2.out hk3 HO2.out (Nat.le_refl _)); have HC3 := Lib.hid hc3; clear hk3 hat3 hc3)
  go_ret
  exact ⟨A3, c3, rfl, HC3.out, HO3.out, HB3.out⟩
end Go.Proofs.YtgecfcdafbedaaaGreat

namespace Go.Proofs.YtgecfcdafbedaaaGreat
open Go.RowKit
set_option linter.unusedSimpArgs false
set_option linter.unusedVariables false

theorem results_two_rows {P : Program} {fn : Func} {p q u : Tmp} {ty ty2 : TypeId} (h : fn.results = #[.cell p ty, .cell q ty2, .tmp u]) (tmps : Array Value) (w : World) (g g2 : Nat) (cs cs2 : List Value) (d d2 : TypeDesc)
    (hp : tmps.getD p undef = .pointer (some ⟨g, 0, none⟩)) (hg : Blk w g ty cs) (hp2 : tmps.getD q undef = .pointer (some ⟨g2, 0, none⟩)) (hg2 : Blk w g2 ty2 cs2)
    (hu : P.underlying ty = some d) (hd : (match d with | .struct _ | .array _ _ => true | _ => false) = true) (hi : (P.info? ty).map (·.size) = some cs.length)
    (hu2 : P.underlying ty2 = some d2) (hd2 : (match d2 with | .struct _ | .array _ _ => true | _ => false) = true) (hi2 : (P.info? ty2).map (·.size) = some cs2.length) :
    (results fn tmps).run P w = .ok (.tuple #[.agg cs.toArray, .agg cs2.toArray, tmps.getD u undef]) w := by
  have hp' : tmps[p]?.getD undef = .pointer (some ⟨g, 0, none⟩) := by simpa using hp
  have hp2' : tmps[q]?.getD undef = .pointer (some ⟨g2, 0, none⟩) := by simpa using hp2
  simp [results, h, hp', hp2', asAddr, Result.andThen, run_loadVar_row w g ty ty cs.toArray (0, 0) d hg hu hd (by simpa using hi), run_loadVar_row w g2 ty2 ty2 cs2.toArray (0, 0) d2 hg2 hu2 hd2 (by simpa using hi2)]
/-- What GetSolution answers. -/
def SolAns (bs : List Int) (n : Nat) (e : Ending) : Prop :=
  ((n = 73 ∧ bs[0]?.getD 0 ≤ 12) ∧ e = .returned (.tuple #[.agg (puzC bs).toArray, .agg ((bs.drop 41).map (Value.int .u8)).toArray, .int .i64 0])) ∨ (¬ (n = 73 ∧ bs[0]?.getD 0 ≤ 12) ∧ e = .returned (.tuple #[.agg zPUZ.toArray, .agg zSum.toArray, .int .i64 4]))
theorem exsol (A : Option Addr) (n c : Nat) (bs : List Int) (w : World) (r : Rd w .u8 A n bs) (l : n ≤ c) (hz : A = none → c = 0) (OK : Nat) (hok : w.cell? ⟨OK, 0, none⟩ = some (.func (.func 48) #[] #[])) :
    Calls Tryz.prog 50 #[.slice A n c, .int .i64 (73 : Int), .func (.func 51) #[] #[], .slice (some ⟨OK, 0, none⟩) 1 1] w fun e w' => ∃ (V1 V2 : List Value) (E : Int), e = .returned (.tuple #[.agg (V1 ++ V2).toArray, .int .i64 E]) ∧ V1.length = 34 ∧ V2.length = 32 ∧ (∀ v ∈ V1, v.oneCell' = true) ∧ (∀ v ∈ V2, v.oneCell' = true) ∧ SolAns bs n (.returned (.tuple #[.agg V1.toArray, .agg V2.toArray, .int .i64 E])) ∧ Below w.heap.size w w' := by
  have hzz : zSOL = zPUZ ++ zSum := rfl
  have hz1 : ∀ v ∈ zPUZ, v.oneCell' = true := by decide
  have hz2 : ∀ v ∈ zSum, v.oneCell' = true := by decide
  by_cases h : n = 73
  · subst h
    have l1 : (puzC bs).length = 34 := by have := r.len; simp [puzC]; omega
    have l2 : ((bs.drop 41).map (Value.int .u8)).length = 32 := by have := r.len; simp; omega
    refine (exsol_any A 73 c 73 (decide (bs[0]?.getD 0 ≤ 12)) (solC bs) w (by omega) (by omega) (by rw [solC, List.length_append, l1, l2]) (fun v hv => by
      rcases List.mem_append.1 hv with h | h
      · exact puz_one v h
      · exact one_ints v h) OK hok (fun _ W hB => work_any A 73 c bs W (r.below hB) (by omega)) (fun _ W hB => rdsol_any A c bs W (r.below hB) l hz)).mono fun e w' hh => ?_
    rcases hh.1 with ⟨hc, rfl⟩ | ⟨hc, rfl⟩
    · exact ⟨puzC bs, (bs.drop 41).map (Value.int .u8), 0, rfl, l1, l2, puz_one, one_ints, .inl ⟨⟨rfl, by simpa using hc.2⟩, rfl⟩, hh.2⟩
    · exact ⟨zPUZ, zSum, 4, by rw [hzz], rfl, rfl, hz1, hz2, .inr ⟨fun hn => hc ⟨rfl, by simpa using hn.2⟩, rfl⟩, hh.2⟩
  · refine (exsol_any A n c 73 (decide (bs[0]?.getD 0 ≤ 12)) zSOL w r.big (by omega) rfl (by decide) OK hok (fun hn => absurd hn h) (fun hn => absurd hn.1 h)).mono fun e w' hh => ?_
    rcases hh.1 with ⟨hc, _⟩ | ⟨hc, rfl⟩
    · exact absurd hc.1 h
    · exact ⟨zPUZ, zSum, 4, by rw [hzz], rfl, rfl, hz1, hz2, .inr ⟨fun hn => absurd hn.1 h, rfl⟩, hh.2⟩
set_option maxRecDepth 100000 in
set_option maxHeartbeats 4000000 in
theorem getsol_any (A : Option Addr) (n c : Nat) (bs : List Int) (w : World) (r : Rd w .u8 A n bs) (l : n ≤ c) (hz : A = none → c = 0) :
    Calls Tryz.prog 12 #[.slice A n c] w fun e w' => SolAns bs n e ∧ Below w.heap.size w w' := by
  obtain ⟨S, hS⟩ : ∃ S, w.heap.size = S := ⟨_, rfl⟩
  have HS := Lib.hid hS
  have hex := fun W (hB : Below w.heap.size w W) OK hok => exsol A n c bs W (r.below hB) l hz OK hok
  obtain ⟨G, hG⟩ : ∃ G : Ending → Prop, SolAns bs n = G := ⟨_, rfl⟩
  rw [hG] at hex ⊢
  have HEX := Lib.hid hex
  have HUP := Lib.hid Tryz.underlying29
  have HUS := Lib.hid Tryz.underlying27
  have HALP := Lib.hid alloc_puz
  have HALS := Lib.hid alloc_sum
  have HALO := Lib.hid alloc_sol
  have hl1 : zPUZ.length = 34 := rfl
  have hl2 : zSum.length = 32 := rfl
  have hl3 : zSOL.length = 66 := rfl
  have HL1 := Lib.hid hl1
  have HL2 := Lib.hid hl2
  have HL3 := Lib.hid hl3
  generalize zPUZ = ZP at HALP HL1
  generalize zSum = ZS at HALS HL2
  generalize zSOL = ZO at HALO HL3
  clear hS hex hG r l hz hl1 hl2 hl3
  go_enter Tryz.func12, Tryz.ntmps12
  go_upto_region 0 with fail
  refine wp_region_lit ?_
  refine wpList_allocT (o := ⟨some 2, .alloc 29, _, _, _, _⟩) rfl 29 ZP (fun W => HALP.out W _ rfl _) ?_; intro w1 HK1 HB1
  rw [HS.out] at HK1 ⊢
  obtain ⟨T, hT⟩ : ∃ T, w1.heap.size = T := ⟨_, rfl⟩
  have HT := Lib.hid hT
  clear hT
  refine wpList_allocT (o := ⟨some 3, .alloc 27, _, _, _, _⟩) rfl 27 ZS (fun W => HALS.out W _ rfl _) ?_; intro w2 HK2 HBB2
  rw [HT.out] at HK2 ⊢
  have HKS : Hid (Blk w2 S 29 ZP) := Lib.hid (HK1.out.keep (Keeps.of_below (M := fun _ => False) HBB2.out) (fun h => h))
  have HB2 := Lib.hid (HB1.out.trans (HBB2.out.mono HB1.out.size))
  have HST := Lib.hid (show S < T by have := HK1.out.lt; have := HT.out; omega)
  go_wp2_with fail
  have HBO : Hid (Below w.heap.size w (w2.alloc (.cells #[.func (.func 48) #[] #[]] 84))) := Lib.hid (HB2.out.alloc HB2.out.size _)
  refine (HEX.out _ HBO.out w2.heap.size (by simp)).mono ?_; rintro e w3 ⟨V1, V2, E, rfl, v1, v2, v3, v4, v5, hB3⟩
  have HV1 := Lib.hid v1
  have HV2 := Lib.hid v2
  have HV3 := Lib.hid v3
  have HV4 := Lib.hid v4
  have HV5 := Lib.hid v5
  have HSP : Hid ((Tryz.prog.info? 29).map (·.size) = some V1.length) := Lib.hid (by rw [v1]; exact size_puz)
  have HSS : Hid ((Tryz.prog.info? 27).map (·.size) = some V2.length) := Lib.hid (by rw [v2]; exact size_sum)
  have HSO : Hid ((Tryz.prog.info? 87).map (·.size) = some (V1 ++ V2).length) := Lib.hid (by rw [List.length_append, v1, v2]; exact size_sol)
  have HKS3 : Hid (Blk w3 S 29 ZP) := Lib.hid ((HKS.out.alloc _).keep (Keeps.of_below (M := fun _ => False) hB3) (fun h => h))
  have HKT3 : Hid (Blk w3 T 27 ZS) := Lib.hid ((HK2.out.alloc _).keep (Keeps.of_below (M := fun _ => False) hB3) (fun h => h))
  have HB3 := Lib.hid (HBO.out.trans (hB3.mono HBO.out.size))
  obtain ⟨R, hR⟩ : ∃ R, w3.heap.size = R := ⟨_, rfl⟩
  have HR := Lib.hid hR
  have HTR := Lib.hid (show T < R by have := HKT3.out.lt; omega)
  clear v1 v2 v3 v4 v5 hB3 hR
  go_upto_region 2 with (first
    | (refine wpList_allocT (o := ⟨some 5, .alloc 87, _, _, _, _⟩) rfl 87 ZO (fun W => HALO.out W _ rfl _) ?_; intro w4 HK4 HB4; rw [HR.out] at HK4 ⊢)
    | (refine wpList_over (o := ⟨none, .store 87 _ _, _, _, _, _⟩) rfl 87 _ _ rfl R (V1 ++ V2) ZO 87 rfl rfl HK4.out (by rw [List.length_append, HV1.out, HV2.out, HL3.out]) HSO.out (fun v hv => by rcases List.mem_append.1 hv with h | h; exact HV3.out v h; exact HV4.out v h) ?_; intro w5 HK5 hk5))
  have HKS5 : Hid (Blk w5.drew S 29 ZP) := Lib.hid (((HKS3.out.keep (Keeps.of_below (M := fun _ => False) HB4.out) (fun h => h)).keep hk5.out (fun h => by have := HST.out; have := HTR.out; omega)).drew)
  have HKT5 : Hid (Blk w5.drew T 27 ZS) := Lib.hid (((HKT3.out.keep (Keeps.of_below (M := fun _ => False) HB4.out) (fun h => h)).keep hk5.out (fun h => by have := HTR.out; omega)).drew)
  have hB5 : Below w.heap.size w w5 := below_keeps (HB3.out.trans (HB4.out.mono HB3.out.size)) hk5.out (Nat.le_refl _) (fun i hi => by rw [hi, ← HR.out]; exact HB3.out.size)
  have HB5 := Lib.hid (show Below w.heap.size w w5.drew from ⟨hB5.os, hB5.tape, hB5.output, hB5.size, hB5.block⟩)
  have hrg : ∀ W, Blk W R 87 (V1 ++ V2) → W.rangeAt R 0 V1 ∧ W.rangeAt R 34 V2 := fun W hk => by
    have := range_two hk.range
    rw [HV1.out, Nat.zero_add] at this
    exact this
  have HRG := Lib.hid hrg
  have HSW := Lib.hid (show w.heap.size ≤ S by have := HS.out; omega)
  obtain ⟨a0, a1⟩ := hrg w5 HK5.out
  clear hB5 hrg hk5 HB4
  refine wp_region_noPanic ?_
  refine wp_region_held_drew (S := (fun w' => w'.rangeAt R 0 V1 ∧ w'.rangeAt R 34 V2)) (by kernel_rfl) ?_ (fun hHeld => ?_)
  · ((try dsimp only); refine ⟨?_, ?_⟩ <;> (first | assumption | (go_keep; done)))
  refine wpAnyH_take (i := 0) (oi := ⟨some 13, _, _, _, _, _⟩) (v := ?_) rfl (by kernel_rfl) (by kernel_rfl) (by kernel_rfl) (fun _ _ _ h => False.elim h) (Or.inl ⟨by rfl, ?_⟩) (by assumption) ?_
  rotate_left
  · intro w hSw
    (try dsimp only at hSw)
    go_simp
    all_goals with_reducible rfl
  (try simp only [Act.put, List.setIfInBounds_toArray, List.set_cons_zero, List.set_cons_succ])
  refine wpAnyH_take (i := 1) (oi := ⟨some 14, _, _, _, _, _⟩) (v := .agg V1.toArray) rfl (by kernel_rfl) (by kernel_rfl) (by kernel_rfl) (fun _ _ _ h => False.elim h) ?_ (by assumption) ?_
  · refine yieldsIf_load_mid ?_ 29 _ rfl R 0 rfl V1 _ ?_ HUP.out rfl HSP.out
    · rfl
    · (intro w hSw; (try dsimp only at hSw); go_split_ands; assumption)
  (try simp only [Act.put, List.setIfInBounds_toArray, List.set_cons_zero, List.set_cons_succ])
  refine wpAnyH_take (i := 2) (oi := ⟨some 15, _, _, _, _, _⟩) (v := ?_) rfl (by kernel_rfl) (by kernel_rfl) (by kernel_rfl) (fun _ _ _ h => False.elim h) (Or.inl ⟨by rfl, ?_⟩) (by assumption) ?_
  rotate_left
  · intro w hSw
    (try dsimp only at hSw)
    go_simp
    all_goals with_reducible rfl
  (try simp only [Act.put, List.setIfInBounds_toArray, List.set_cons_zero, List.set_cons_succ])
  refine wpAnyH_take (i := 3) (oi := ⟨some 16, _, _, _, _, _⟩) (v := .agg V2.toArray) rfl (by kernel_rfl) (by kernel_rfl) (by kernel_rfl) (fun _ _ _ h => False.elim h) ?_ (by assumption) ?_
  · refine yieldsIf_load_mid ?_ 27 _ rfl R 34 rfl V2 _ ?_ HUS.out rfl HSS.out
    · rfl
    · (intro w hSw; (try dsimp only at hSw); go_split_ands; assumption)
  (try simp only [Act.put, List.setIfInBounds_toArray, List.set_cons_zero, List.set_cons_succ])
  refine wpAnyH_take (i := 4) (oi := ⟨some 17, _, _, _, _, _⟩) (v := ?_) rfl (by kernel_rfl) (by kernel_rfl) (by kernel_rfl) (fun _ _ _ h => False.elim h) (Or.inl ⟨by rfl, ?_⟩) (by assumption) ?_
  rotate_left
  · intro w hSw
    (try dsimp only at hSw)
    go_simp
    all_goals with_reducible rfl
  (try simp only [Act.put, List.setIfInBounds_toArray, List.set_cons_zero, List.set_cons_succ])
  refine wpAnyH_ready (rs := [5]) (by kernel_rfl) (by simp) ?_
  refine AllReadyH.cons (o := ⟨none, _, _, _, _, _⟩) rfl (fun K hK => ?_) AllReadyH.nil
  (refine step_overT rfl 29 _ _ rfl S V1 ZP 29 rfl rfl HKS5.out (by rw [HV1.out, HL1.out]) HSP.out HV3.out ?_; intro w6 HK6 hk6; have HKR6 : Hid (Blk w6 R 87 (V1 ++ V2)) := Lib.hid (HK5.out.drew.keep hk6.out (fun h => by have := HST.out; have := HTR.out; omega)); have HKT6 : Hid (Blk w6 T 27 ZS) := Lib.hid (HKT5.out.keep hk6.out (fun h => by have := HST.out; omega)); have HB6 := Lib.hid (below_keeps HB5.out hk6.out (Nat.le_refl _) (fun i hi => by rw [hi]; exact HSW.out)); obtain ⟨b0, b1⟩ := HRG.out w6 HKR6.out; clear hk6)
  refine hK.out _ _ ?_ (fun hHeld => ?_)
  · ((try dsimp only); refine ⟨?_, ?_⟩ <;> (first | assumption | (go_keep; done)))
  clear hK K
  (try simp only [Act.put, List.setIfInBounds_toArray, List.set_cons_zero, List.set_cons_succ])
  refine wpAnyH_ready (rs := [6]) (by kernel_rfl) (by simp) ?_
  refine AllReadyH.cons (o := ⟨none, _, _, _, _, _⟩) rfl (fun K hK => ?_) AllReadyH.nil
  (refine step_overT rfl 27 _ _ rfl T V2 ZS 27 rfl rfl HKT6.out (by rw [HV2.out, HL2.out]) HSS.out HV4.out ?_; intro w7 HK7 hk7; have HKR7 : Hid (Blk w7 R 87 (V1 ++ V2)) := Lib.hid (HKR6.out.keep hk7.out (fun h => by have := HTR.out; omega)); have HKS7 : Hid (Blk w7 S 29 V1) := Lib.hid (HK6.out.keep hk7.out (fun h => by have := HST.out; omega)); have HB7 := Lib.hid (below_keeps HB6.out hk7.out (Nat.le_refl _) (fun i hi => by rw [hi]; have := HSW.out; have := HST.out; omega)); obtain ⟨d0, d1⟩ := HRG.out w7 HKR7.out; clear hk7)
  refine hK.out _ _ ?_ (fun hHeld => ?_)
  · ((try dsimp only); refine ⟨?_, ?_⟩ <;> (first | assumption | (go_keep; done)))
  clear hK K
  (try simp only [Act.put, List.setIfInBounds_toArray, List.set_cons_zero, List.set_cons_succ])
  refine wpAnyH_take (i := 7) (oi := ⟨some 4, _, _, _, _, _⟩) (v := ?_) rfl (by kernel_rfl) (by kernel_rfl) (by kernel_rfl) (fun _ _ _ h => False.elim h) (Or.inl ⟨by rfl, ?_⟩) (by assumption) ?_
  rotate_left
  · intro w hSw
    (try dsimp only at hSw)
    go_simp
    all_goals with_reducible rfl
  (try simp only [Act.put, List.setIfInBounds_toArray, List.set_cons_zero, List.set_cons_succ])
  refine wpAnyH_done (by kernel_rfl) ?_ _
  refine NoPanic.normal ?_
  go_wp2_with fail
  refine bodyPost_ret (results_two_rows rfl _ _ S T V1 V2 _ _ rfl HKS7.out rfl HK7.out HUP.out rfl HSP.out HUS.out rfl HSS.out) rfl ?_
  exact ⟨HV5.out, HB7.out⟩
end Go.Proofs.YtgecfcdafbedaaaGreat
