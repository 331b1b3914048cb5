/- The walks over params.exactly, at each kind of body. (Printed by wip/mkbd.py.); Pieces as bytes, and back: plain laws on lists. -/
import Derived.Test.YtgecfcdafbedaaaGreatZRParamsBodies18
import Derived.Deep.CutRange
import Derived.Test.YtgecfcdafbedaaaGreatZRParamsBodies1
namespace Go.Proofs.YtgecfcdafbedaaaGreat
open Go.RowKit
set_option linter.unusedSimpArgs false
set_option linter.unusedVariables false

/-- What exactly answers. -/
def ExAns (C : Prop) (v z : Value) (e : Ending) : Prop := (C ∧ e = .returned (.tuple #[v, .int .i64 0])) ∨ (¬ C ∧ e = .returned (.tuple #[z, .int .i64 4]))
set_option maxRecDepth 100000 in
set_option maxHeartbeats 4000000 in
theorem exsum_any (A : Option Addr) (n c many : Nat) (V : List Value) (w : World) (hn : n ≤ 140737488351232) (hm : many ≤ 1000) (hV : V.length = 32) (hV1 : ∀ v ∈ V, v.oneCell' = true) 
    (hrd : n = many → ∀ W, Below w.heap.size w W → Calls Tryz.prog 52 #[.slice A n c] W fun e w' => e = .returned (.agg V.toArray) ∧ Below W.heap.size W w') :
    Calls Tryz.prog 57 #[.slice A n c, .int .i64 (many : Int), .func (.func 52) #[] #[], .slice none 0 0] w fun e w' =>
      ExAns (n = many) (.agg V.toArray) (.agg zSum.toArray) e ∧ Below w.heap.size w w' := by
  obtain ⟨S, hS⟩ : ∃ S, w.heap.size = S := ⟨_, rfl⟩
  have HS := Lib.hid hS
  have HU := Lib.hid Tryz.underlying27
  have hszz : (Tryz.prog.info? 27).map (·.size) = some zSum.length := by kernel_rfl
  have hszv : (Tryz.prog.info? 27).map (·.size) = some V.length := by rw [hV]; exact size_sum
  have hz1 : ∀ v ∈ zSum, v.oneCell' = true := by decide
  have hzv : V.length = zSum.length := by rw [hV]; rfl
  have HSZZ := Lib.hid hszz
  have HSZV := Lib.hid hszv
  have HZ1 := Lib.hid hz1
  have HV1 := Lib.hid hV1
  have HZV := Lib.hid hzv
  have HRD := Lib.hid hrd
  have HAL := Lib.hid alloc_sum
  generalize zSum = Z at HSZZ HZ1 HZV HAL ⊢
  clear hS hV hV1 hszz hszv hz1 hzv hrd 
  go_enter Tryz.func57, Tryz.ntmps57
  go_upto_region 0 with fail
  refine wp_region_lit ?_
  refine wpList_allocT (o := ⟨some 8, .alloc 27, _, _, _, _⟩) rfl 27 Z (fun W => HAL.out W _ rfl _) ?_; intro w1 HK1 HB1
  rw [HS.out] at HK1 ⊢
  by_cases hnm : n = many
  · have HRD2 := Lib.hid (fun W hB => HRD.out hnm W hB)
    subst hnm
    have f1 : ((n : Int) != (n : Int)) = false := by simp
    go_wp2_with fail
    refine wp_loop_rounds 1 ?_
    rw [rounds_succ]
    go_wp2_with fail
    refine (HRD2.out w1 HB1.out).mono ?_; rintro e w2 ⟨rfl, hB2⟩
    have HK2 : Hid (Blk w2 S 27 Z) := Lib.hid (HK1.out.keep (Keeps.of_below (M := fun _ => False) hB2) (fun h => h))
    have HB2 := Lib.hid (HB1.out.trans (hB2.mono HB1.out.size))
    clear hB2
    go_wp2_with (first | (refine wpList_over (o := ⟨none, .store 27 _ _, _, _, _, _⟩) rfl 27 _ _ rfl S V Z 27 rfl rfl HK2.out HZV.out HSZV.out HV1.out ?_; intro w3 HK3 hk3; have HB3 := Lib.hid (below_keeps HB2.out hk3.out (Nat.le_refl _) (fun i hi => by rw [hi, HS.out]; exact Nat.le_refl _)); clear hk3))
    refine bodyPost_ret (results_row_tmp rfl _ _ S V _ rfl HK3.out HU.out rfl HSZV.out) rfl ?_
    exact ⟨.inl ⟨by first | trivial | exact rfl | simp, rfl⟩, HB3.out⟩
  · have f1 : ((n : Int) != (many : Int)) = true := by simp; omega
    have HNM := Lib.hid hnm
    clear hnm
    go_upto_region 2 with fail
    refine wp_region_lit ?_
    refine wpList_loadT (o := ⟨some 16, .load 27 _, _, _, _, _⟩) rfl 27 _ rfl S rfl 27 Z _ HK1.out HU.out rfl HSZZ.out ?_
    refine wpList_over (o := ⟨none, .store 27 _ _, _, _, _, _⟩) rfl 27 _ _ rfl S Z Z 27 rfl rfl HK1.out rfl HSZZ.out HZ1.out ?_; intro w2 HK2 hk2
    have HB2 := Lib.hid (below_keeps HB1.out hk2.out (Nat.le_refl _) (fun i hi => by rw [hi, HS.out]; exact Nat.le_refl _))
    clear hk2
    go_wp2_with fail
    refine bodyPost_ret (results_row_tmp rfl _ _ S Z _ rfl HK2.out HU.out rfl HSZZ.out) rfl ?_
    exact ⟨.inr ⟨HNM.out, rfl⟩, HB2.out⟩

def zARR2 : List Value := [.int .u32 0, .int .u32 0]
theorem alloc_arr2 (W : World) (o : Oper) (ho : o.op = .alloc 74) (ev : Operand → Value) : (execOp ev o).run Tryz.prog W = .ok (.value (.pointer (some ⟨W.heap.size, 0, none⟩))) (W.alloc (.cells zARR2.toArray 74)) := by
  obtain ⟨d, op, t, p, af, g⟩ := o
  simp only at ho
  subst ho
  kernel_rfl
theorem size_arr2 : (Tryz.prog.info? 74).map (·.size) = some 2 := by kernel_rfl
set_option maxRecDepth 100000 in
set_option maxHeartbeats 4000000 in
theorem exarr2_any (A : Option Addr) (n c many : Nat) (V : List Value) (w : World) (hn : n ≤ 140737488351232) (hm : many ≤ 1000) (hV : V.length = 2) (hV1 : ∀ v ∈ V, v.oneCell' = true) 
    (hrd : n = many → ∀ W, Below w.heap.size w W → Calls Tryz.prog 42 #[.slice A n c] W fun e w' => e = .returned (.agg V.toArray) ∧ Below W.heap.size W w') :
    Calls Tryz.prog 41 #[.slice A n c, .int .i64 (many : Int), .func (.func 42) #[] #[], .slice none 0 0] w fun e w' =>
      ExAns (n = many) (.agg V.toArray) (.agg zARR2.toArray) e ∧ Below w.heap.size w w' := by
  obtain ⟨S, hS⟩ : ∃ S, w.heap.size = S := ⟨_, rfl⟩
  have HS := Lib.hid hS
  have HU := Lib.hid Tryz.underlying74
  have hszz : (Tryz.prog.info? 74).map (·.size) = some zARR2.length := by kernel_rfl
  have hszv : (Tryz.prog.info? 74).map (·.size) = some V.length := by rw [hV]; exact size_arr2
  have hz1 : ∀ v ∈ zARR2, v.oneCell' = true := by decide
  have hzv : V.length = zARR2.length := by rw [hV]; rfl
  have HSZZ := Lib.hid hszz
  have HSZV := Lib.hid hszv
  have HZ1 := Lib.hid hz1
  have HV1 := Lib.hid hV1
  have HZV := Lib.hid hzv
  have HRD := Lib.hid hrd
  have HAL := Lib.hid alloc_arr2
  generalize zARR2 = Z at HSZZ HZ1 HZV HAL ⊢
  clear hS hV hV1 hszz hszv hz1 hzv hrd 
  go_enter Tryz.func41, Tryz.ntmps41
  go_upto_region 0 with fail
  refine wp_region_lit ?_
  refine wpList_allocT (o := ⟨some 8, .alloc 74, _, _, _, _⟩) rfl 74 Z (fun W => HAL.out W _ rfl _) ?_; intro w1 HK1 HB1
  rw [HS.out] at HK1 ⊢
  by_cases hnm : n = many
  · have HRD2 := Lib.hid (fun W hB => HRD.out hnm W hB)
    subst hnm
    have f1 : ((n : Int) != (n : Int)) = false := by simp
    go_wp2_with fail
    refine wp_loop_rounds 1 ?_
    rw [rounds_succ]
    go_wp2_with fail
    refine (HRD2.out w1 HB1.out).mono ?_; rintro e w2 ⟨rfl, hB2⟩
    have HK2 : Hid (Blk w2 S 74 Z) := Lib.hid (HK1.out.keep (Keeps.of_below (M := fun _ => False) hB2) (fun h => h))
    have HB2 := Lib.hid (HB1.out.trans (hB2.mono HB1.out.size))
    clear hB2
    go_wp2_with (first | (refine wpList_over (o := ⟨none, .store 74 _ _, _, _, _, _⟩) rfl 74 _ _ rfl S V Z 74 rfl rfl HK2.out HZV.out HSZV.out HV1.out ?_; intro w3 HK3 hk3; have HB3 := Lib.hid (below_keeps HB2.out hk3.out (Nat.le_refl _) (fun i hi => by rw [hi, HS.out]; exact Nat.le_refl _)); clear hk3))
    refine bodyPost_ret (results_row_tmp rfl _ _ S V _ rfl HK3.out HU.out rfl HSZV.out) rfl ?_
    exact ⟨.inl ⟨by first | trivial | exact rfl | simp, rfl⟩, HB3.out⟩
  · have f1 : ((n : Int) != (many : Int)) = true := by simp; omega
    have HNM := Lib.hid hnm
    clear hnm
    go_upto_region 2 with fail
    refine wp_region_lit ?_
    refine wpList_loadT (o := ⟨some 16, .load 74 _, _, _, _, _⟩) rfl 74 _ rfl S rfl 74 Z _ HK1.out HU.out rfl HSZZ.out ?_
    refine wpList_over (o := ⟨none, .store 74 _ _, _, _, _, _⟩) rfl 74 _ _ rfl S Z Z 74 rfl rfl HK1.out rfl HSZZ.out HZ1.out ?_; intro w2 HK2 hk2
    have HB2 := Lib.hid (below_keeps HB1.out hk2.out (Nat.le_refl _) (fun i hi => by rw [hi, HS.out]; exact Nat.le_refl _))
    clear hk2
    go_wp2_with fail
    refine bodyPost_ret (results_row_tmp rfl _ _ S Z _ rfl HK2.out HU.out rfl HSZZ.out) rfl ?_
    exact ⟨.inr ⟨HNM.out, rfl⟩, HB2.out⟩

def zNUM : List Value := (List.replicate 4 (0 : Int)).map (Value.int .u64)
theorem alloc_num (W : World) (o : Oper) (ho : o.op = .alloc 31) (ev : Operand → Value) : (execOp ev o).run Tryz.prog W = .ok (.value (.pointer (some ⟨W.heap.size, 0, none⟩))) (W.alloc (.cells zNUM.toArray 31)) := by
  obtain ⟨d, op, t, p, af, g⟩ := o
  simp only at ho
  subst ho
  kernel_rfl
theorem size_num : (Tryz.prog.info? 31).map (·.size) = some 4 := by kernel_rfl
set_option maxRecDepth 100000 in
set_option maxHeartbeats 4000000 in
theorem exnum_any (A : Option Addr) (n c many : Nat) (V : List Value) (w : World) (hn : n ≤ 140737488351232) (hm : many ≤ 1000) (hV : V.length = 4) (hV1 : ∀ v ∈ V, v.oneCell' = true) 
    (hrd : n = many → ∀ W, Below w.heap.size w W → Calls Tryz.prog 55 #[.slice A n c] W fun e w' => e = .returned (.agg V.toArray) ∧ Below W.heap.size W w') :
    Calls Tryz.prog 54 #[.slice A n c, .int .i64 (many : Int), .func (.func 55) #[] #[], .slice none 0 0] w fun e w' =>
      ExAns (n = many) (.agg V.toArray) (.agg zNUM.toArray) e ∧ Below w.heap.size w w' := by
  obtain ⟨S, hS⟩ : ∃ S, w.heap.size = S := ⟨_, rfl⟩
  have HS := Lib.hid hS
  have HU := Lib.hid Tryz.underlying31
  have hszz : (Tryz.prog.info? 31).map (·.size) = some zNUM.length := by kernel_rfl
  have hszv : (Tryz.prog.info? 31).map (·.size) = some V.length := by rw [hV]; exact size_num
  have hz1 : ∀ v ∈ zNUM, v.oneCell' = true := by decide
  have hzv : V.length = zNUM.length := by rw [hV]; rfl
  have HSZZ := Lib.hid hszz
  have HSZV := Lib.hid hszv
  have HZ1 := Lib.hid hz1
  have HV1 := Lib.hid hV1
  have HZV := Lib.hid hzv
  have HRD := Lib.hid hrd
  have HAL := Lib.hid alloc_num
  generalize zNUM = Z at HSZZ HZ1 HZV HAL ⊢
  clear hS hV hV1 hszz hszv hz1 hzv hrd 
  go_enter Tryz.func54, Tryz.ntmps54
  go_upto_region 0 with fail
  refine wp_region_lit ?_
  refine wpList_allocT (o := ⟨some 8, .alloc 31, _, _, _, _⟩) rfl 31 Z (fun W => HAL.out W _ rfl _) ?_; intro w1 HK1 HB1
  rw [HS.out] at HK1 ⊢
  by_cases hnm : n = many
  · have HRD2 := Lib.hid (fun W hB => HRD.out hnm W hB)
    subst hnm
    have f1 : ((n : Int) != (n : Int)) = false := by simp
    go_wp2_with fail
    refine wp_loop_rounds 1 ?_
    rw [rounds_succ]
    go_wp2_with fail
    refine (HRD2.out w1 HB1.out).mono ?_; rintro e w2 ⟨rfl, hB2⟩
    have HK2 : Hid (Blk w2 S 31 Z) := Lib.hid (HK1.out.keep (Keeps.of_below (M := fun _ => False) hB2) (fun h => h))
    have HB2 := Lib.hid (HB1.out.trans (hB2.mono HB1.out.size))
    clear hB2
    go_wp2_with (first | (refine wpList_over (o := ⟨none, .store 31 _ _, _, _, _, _⟩) rfl 31 _ _ rfl S V Z 31 rfl rfl HK2.out HZV.out HSZV.out HV1.out ?_; intro w3 HK3 hk3; have HB3 := Lib.hid (below_keeps HB2.out hk3.out (Nat.le_refl _) (fun i hi => by rw [hi, HS.out]; exact Nat.le_refl _)); clear hk3))
    refine bodyPost_ret (results_row_tmp rfl _ _ S V _ rfl HK3.out HU.out rfl HSZV.out) rfl ?_
    exact ⟨.inl ⟨by first | trivial | exact rfl | simp, rfl⟩, HB3.out⟩
  · have f1 : ((n : Int) != (many : Int)) = true := by simp; omega
    have HNM := Lib.hid hnm
    clear hnm
    go_upto_region 2 with fail
    refine wp_region_lit ?_
    refine wpList_loadT (o := ⟨some 16, .load 31 _, _, _, _, _⟩) rfl 31 _ rfl S rfl 31 Z _ HK1.out HU.out rfl HSZZ.out ?_
    refine wpList_over (o := ⟨none, .store 31 _ _, _, _, _, _⟩) rfl 31 _ _ rfl S Z Z 31 rfl rfl HK1.out rfl HSZZ.out HZ1.out ?_; intro w2 HK2 hk2
    have HB2 := Lib.hid (below_keeps HB1.out hk2.out (Nat.le_refl _) (fun i hi => by rw [hi, HS.out]; exact Nat.le_refl _))
    clear hk2
    go_wp2_with fail
    refine bodyPost_ret (results_row_tmp rfl _ _ S Z _ rfl HK2.out HU.out rfl HSZZ.out) rfl ?_
    exact ⟨.inr ⟨HNM.out, rfl⟩, HB2.out⟩

def zSIG : List Value := (List.replicate 8 (0 : Int)).map (Value.int .u64)
theorem alloc_sig (W : World) (o : Oper) (ho : o.op = .alloc 33) (ev : Operand → Value) : (execOp ev o).run Tryz.prog W = .ok (.value (.pointer (some ⟨W.heap.size, 0, none⟩))) (W.alloc (.cells zSIG.toArray 33)) := by
  obtain ⟨d, op, t, p, af, g⟩ := o
  simp only at ho
  subst ho
  kernel_rfl
theorem size_sig : (Tryz.prog.info? 33).map (·.size) = some 8 := by kernel_rfl
set_option maxRecDepth 100000 in
set_option maxHeartbeats 4000000 in
theorem exsig_any (A : Option Addr) (n c many : Nat) (V : List Value) (w : World) (hn : n ≤ 140737488351232) (hm : many ≤ 1000) (hV : V.length = 8) (hV1 : ∀ v ∈ V, v.oneCell' = true) 
    (hrd : n = many → ∀ W, Below w.heap.size w W → Calls Tryz.prog 59 #[.slice A n c] W fun e w' => e = .returned (.agg V.toArray) ∧ Below W.heap.size W w') :
    Calls Tryz.prog 58 #[.slice A n c, .int .i64 (many : Int), .func (.func 59) #[] #[], .slice none 0 0] w fun e w' =>
      ExAns (n = many) (.agg V.toArray) (.agg zSIG.toArray) e ∧ Below w.heap.size w w' := by
  obtain ⟨S, hS⟩ : ∃ S, w.heap.size = S := ⟨_, rfl⟩
  have HS := Lib.hid hS
  have HU := Lib.hid Tryz.underlying33
  have hszz : (Tryz.prog.info? 33).map (·.size) = some zSIG.length := by kernel_rfl
  have hszv : (Tryz.prog.info? 33).map (·.size) = some V.length := by rw [hV]; exact size_sig
  have hz1 : ∀ v ∈ zSIG, v.oneCell' = true := by decide
  have hzv : V.length = zSIG.length := by rw [hV]; rfl
  have HSZZ := Lib.hid hszz
  have HSZV := Lib.hid hszv
  have HZ1 := Lib.hid hz1
  have HV1 := Lib.hid hV1
  have HZV := Lib.hid hzv
  have HRD := Lib.hid hrd
  have HAL := Lib.hid alloc_sig
  generalize zSIG = Z at HSZZ HZ1 HZV HAL ⊢
  clear hS hV hV1 hszz hszv hz1 hzv hrd 
  go_enter Tryz.func58, Tryz.ntmps58
  go_upto_region 0 with fail
  refine wp_region_lit ?_
  refine wpList_allocT (o := ⟨some 8, .alloc 33, _, _, _, _⟩) rfl 33 Z (fun W => HAL.out W _ rfl _) ?_; intro w1 HK1 HB1
  rw [HS.out] at HK1 ⊢
  by_cases hnm : n = many
  · have HRD2 := Lib.hid (fun W hB => HRD.out hnm W hB)
    subst hnm
    have f1 : ((n : Int) != (n : Int)) = false := by simp
    go_wp2_with fail
    refine wp_loop_rounds 1 ?_
    rw [rounds_succ]
    go_wp2_with fail
    refine (HRD2.out w1 HB1.out).mono ?_; rintro e w2 ⟨rfl, hB2⟩
    have HK2 : Hid (Blk w2 S 33 Z) := Lib.hid (HK1.out.keep (Keeps.of_below (M := fun _ => False) hB2) (fun h => h))
    have HB2 := Lib.hid (HB1.out.trans (hB2.mono HB1.out.size))
    clear hB2
    go_wp2_with (first | (refine wpList_over (o := ⟨none, .store 33 _ _, _, _, _, _⟩) rfl 33 _ _ rfl S V Z 33 rfl rfl HK2.out HZV.out HSZV.out HV1.out ?_; intro w3 HK3 hk3; have HB3 := Lib.hid (below_keeps HB2.out hk3.out (Nat.le_refl _) (fun i hi => by rw [hi, HS.out]; exact Nat.le_refl _)); clear hk3))
    refine bodyPost_ret (results_row_tmp rfl _ _ S V _ rfl HK3.out HU.out rfl HSZV.out) rfl ?_
    exact ⟨.inl ⟨by first | trivial | exact rfl | simp, rfl⟩, HB3.out⟩
  · have f1 : ((n : Int) != (many : Int)) = true := by simp; omega
    have HNM := Lib.hid hnm
    clear hnm
    go_upto_region 2 with fail
    refine wp_region_lit ?_
    refine wpList_loadT (o := ⟨some 16, .load 33 _, _, _, _, _⟩) rfl 33 _ rfl S rfl 33 Z _ HK1.out HU.out rfl HSZZ.out ?_
    refine wpList_over (o := ⟨none, .store 33 _ _, _, _, _, _⟩) rfl 33 _ _ rfl S Z Z 33 rfl rfl HK1.out rfl HSZZ.out HZ1.out ?_; intro w2 HK2 hk2
    have HB2 := Lib.hid (below_keeps HB1.out hk2.out (Nat.le_refl _) (fun i hi => by rw [hi, HS.out]; exact Nat.le_refl _))
    clear hk2
    go_wp2_with fail
    refine bodyPost_ret (results_row_tmp rfl _ _ S Z _ rfl HK2.out HU.out rfl HSZZ.out) rfl ?_
    exact ⟨.inr ⟨HNM.out, rfl⟩, HB2.out⟩

def zPUZ : List Value := [.int .u8 0, .int .u64 0] ++ (List.replicate 32 (0 : Int)).map (Value.int .u8)
theorem alloc_puz (W : World) (o : Oper) (ho : o.op = .alloc 29) (ev : Operand → Value) : (execOp ev o).run Tryz.prog W = .ok (.value (.pointer (some ⟨W.heap.size, 0, none⟩))) (W.alloc (.cells zPUZ.toArray 29)) := by
  obtain ⟨d, op, t, p, af, g⟩ := o
  simp only at ho
  subst ho
  kernel_rfl
theorem size_puz : (Tryz.prog.info? 29).map (·.size) = some 34 := by kernel_rfl
set_option maxRecDepth 100000 in
set_option maxHeartbeats 4000000 in
theorem expuz_any (A : Option Addr) (n c many : Nat) (good : Bool) (V : List Value) (w : World) (hn : n ≤ 140737488351232) (hm : many ≤ 1000) (hV : V.length = 34) (hV1 : ∀ v ∈ V, v.oneCell' = true) (OK : Nat) (hok : w.cell? ⟨OK, 0, none⟩ = some (.func (.func 48) #[] #[])) (hwk : n = many → ∀ W, Below w.heap.size w W → Calls Tryz.prog 48 #[.slice A n c] W fun e w' => e = .returned (.bool good) ∧ W = w')
    (hrd : n = many ∧ good = true → ∀ W, Below w.heap.size w W → Calls Tryz.prog 47 #[.slice A n c] W fun e w' => e = .returned (.agg V.toArray) ∧ Below W.heap.size W w') :
    Calls Tryz.prog 46 #[.slice A n c, .int .i64 (many : Int), .func (.func 47) #[] #[], .slice (some ⟨OK, 0, none⟩) 1 1] w fun e w' =>
      ExAns (n = many ∧ good = true) (.agg V.toArray) (.agg zPUZ.toArray) e ∧ Below w.heap.size w w' := by
  obtain ⟨S, hS⟩ : ∃ S, w.heap.size = S := ⟨_, rfl⟩
  have HS := Lib.hid hS
  have HU := Lib.hid Tryz.underlying29
  have hszz : (Tryz.prog.info? 29).map (·.size) = some zPUZ.length := by kernel_rfl
  have hszv : (Tryz.prog.info? 29).map (·.size) = some V.length := by rw [hV]; exact size_puz
  have hz1 : ∀ v ∈ zPUZ, v.oneCell' = true := by decide
  have hzv : V.length = zPUZ.length := by rw [hV]; rfl
  have HSZZ := Lib.hid hszz
  have HSZV := Lib.hid hszv
  have HZ1 := Lib.hid hz1
  have HV1 := Lib.hid hV1
  have HZV := Lib.hid hzv
  have HRD := Lib.hid hrd
  have HOK := Lib.hid hok
  have HWK := Lib.hid hwk
  have HAL := Lib.hid alloc_puz
  generalize zPUZ = Z at HSZZ HZ1 HZV HAL ⊢
  clear hS hV hV1 hszz hszv hz1 hzv hrd hok hwk
  go_enter Tryz.func46, Tryz.ntmps46
  go_upto_region 0 with fail
  refine wp_region_lit ?_
  refine wpList_allocT (o := ⟨some 8, .alloc 29, _, _, _, _⟩) rfl 29 Z (fun W => HAL.out W _ rfl _) ?_; intro w1 HK1 HB1
  rw [HS.out] at HK1 ⊢
  by_cases hnm : n = many
  · have HRD2 := Lib.hid (fun hg W hB => HRD.out ⟨hnm, hg⟩ W hB)
    have HWK2 := Lib.hid (fun W hB => HWK.out hnm W hB)
    subst hnm
    have f1 : ((n : Int) != (n : Int)) = false := by simp
    have hok1 : w1.cell? ⟨OK, 0, none⟩ = some (.func (.func 48) #[] #[]) := (HB1.out.cell (p := ⟨OK, 0, none⟩) (block_lt_of_cell HOK.out)).trans HOK.out
    cases good with
    | true =>
      go_wp2_with fail
      refine wp_loop_rounds 2 ?_
      rw [rounds_succ]
      go_wp2_with fail
      refine (HWK2.out w1 HB1.out).mono ?_; rintro e wx ⟨rfl, rfl⟩
      go_wp2_with fail
      rw [rounds_succ]
      go_wp2_with fail
      refine (HRD2.out trivial w1 HB1.out).mono ?_; rintro e w2 ⟨rfl, hB2⟩
      have HK2 : Hid (Blk w2 S 29 Z) := Lib.hid (HK1.out.keep (Keeps.of_below (M := fun _ => False) hB2) (fun h => h))
      have HB2 := Lib.hid (HB1.out.trans (hB2.mono HB1.out.size))
      clear hB2
      go_wp2_with (first | (refine wpList_over (o := ⟨none, .store 29 _ _, _, _, _, _⟩) rfl 29 _ _ rfl S V Z 29 rfl rfl HK2.out HZV.out HSZV.out HV1.out ?_; intro w3 HK3 hk3; have HB3 := Lib.hid (below_keeps HB2.out hk3.out (Nat.le_refl _) (fun i hi => by rw [hi, HS.out]; exact Nat.le_refl _)); clear hk3))
      refine bodyPost_ret (results_row_tmp rfl _ _ S V _ rfl HK3.out HU.out rfl HSZV.out) rfl ?_
      exact ⟨.inl ⟨by first | trivial | exact rfl | simp, rfl⟩, HB3.out⟩
    | false =>
      go_wp2_with fail
      refine wp_loop_rounds 2 ?_
      rw [rounds_succ]
      go_wp2_with fail
      refine (HWK2.out w1 HB1.out).mono ?_; rintro e wx ⟨rfl, rfl⟩
      go_upto_region 7 with fail
      refine wp_region_lit ?_
      refine wpList_loadT (o := ⟨some 27, .load 29 _, _, _, _, _⟩) rfl 29 _ rfl S rfl 29 Z _ HK1.out HU.out rfl HSZZ.out ?_
      refine wpList_over (o := ⟨none, .store 29 _ _, _, _, _, _⟩) rfl 29 _ _ rfl S Z Z 29 rfl rfl HK1.out rfl HSZZ.out HZ1.out ?_; intro w2 HK2 hk2
      have HB2 := Lib.hid (below_keeps HB1.out hk2.out (Nat.le_refl _) (fun i hi => by rw [hi, HS.out]; exact Nat.le_refl _))
      clear hk2
      go_wp2_with fail
      refine bodyPost_ret (results_row_tmp rfl _ _ S Z _ rfl HK2.out HU.out rfl HSZZ.out) rfl ?_
      exact ⟨.inr ⟨by simp, rfl⟩, HB2.out⟩
  · have f1 : ((n : Int) != (many : Int)) = true := by simp; omega
    have HNM := Lib.hid hnm
    clear hnm
    go_upto_region 2 with fail
    refine wp_region_lit ?_
    refine wpList_loadT (o := ⟨some 16, .load 29 _, _, _, _, _⟩) rfl 29 _ rfl S rfl 29 Z _ HK1.out HU.out rfl HSZZ.out ?_
    refine wpList_over (o := ⟨none, .store 29 _ _, _, _, _, _⟩) rfl 29 _ _ rfl S Z Z 29 rfl rfl HK1.out rfl HSZZ.out HZ1.out ?_; intro w2 HK2 hk2
    have HB2 := Lib.hid (below_keeps HB1.out hk2.out (Nat.le_refl _) (fun i hi => by rw [hi, HS.out]; exact Nat.le_refl _))
    clear hk2
    go_wp2_with fail
    refine bodyPost_ret (results_row_tmp rfl _ _ S Z _ rfl HK2.out HU.out rfl HSZZ.out) rfl ?_
    exact ⟨.inr ⟨fun h => HNM.out h.1, rfl⟩, HB2.out⟩

def zSOL : List Value := [.int .u8 0, .int .u64 0] ++ (List.replicate 64 (0 : Int)).map (Value.int .u8)
theorem alloc_sol (W : World) (o : Oper) (ho : o.op = .alloc 87) (ev : Operand → Value) : (execOp ev o).run Tryz.prog W = .ok (.value (.pointer (some ⟨W.heap.size, 0, none⟩))) (W.alloc (.cells zSOL.toArray 87)) := by
  obtain ⟨d, op, t, p, af, g⟩ := o
  simp only at ho
  subst ho
  kernel_rfl
theorem size_sol : (Tryz.prog.info? 87).map (·.size) = some 66 := by kernel_rfl
set_option maxRecDepth 100000 in
set_option maxHeartbeats 4000000 in
theorem exsol_any (A : Option Addr) (n c many : Nat) (good : Bool) (V : List Value) (w : World) (hn : n ≤ 140737488351232) (hm : many ≤ 1000) (hV : V.length = 66) (hV1 : ∀ v ∈ V, v.oneCell' = true) (OK : Nat) (hok : w.cell? ⟨OK, 0, none⟩ = some (.func (.func 48) #[] #[])) (hwk : n = many → ∀ W, Below w.heap.size w W → Calls Tryz.prog 48 #[.slice A n c] W fun e w' => e = .returned (.bool good) ∧ W = w')
    (hrd : n = many ∧ good = true → ∀ W, Below w.heap.size w W → Calls Tryz.prog 51 #[.slice A n c] W fun e w' => e = .returned (.agg V.toArray) ∧ Below W.heap.size W w') :
    Calls Tryz.prog 50 #[.slice A n c, .int .i64 (many : Int), .func (.func 51) #[] #[], .slice (some ⟨OK, 0, none⟩) 1 1] w fun e w' =>
      ExAns (n = many ∧ good = true) (.agg V.toArray) (.agg zSOL.toArray) e ∧ Below w.heap.size w w' := by
  obtain ⟨S, hS⟩ : ∃ S, w.heap.size = S := ⟨_, rfl⟩
  have HS := Lib.hid hS
  have HU := Lib.hid Tryz.underlying87
  have hszz : (Tryz.prog.info? 87).map (·.size) = some zSOL.length := by kernel_rfl
  have hszv : (Tryz.prog.info? 87).map (·.size) = some V.length := by rw [hV]; exact size_sol
  have hz1 : ∀ v ∈ zSOL, v.oneCell' = true := by decide
  have hzv : V.length = zSOL.length := by rw [hV]; rfl
  have HSZZ := Lib.hid hszz
  have HSZV := Lib.hid hszv
  have HZ1 := Lib.hid hz1
  have HV1 := Lib.hid hV1
  have HZV := Lib.hid hzv
  have HRD := Lib.hid hrd
  have HOK := Lib.hid hok
  have HWK := Lib.hid hwk
  have HAL := Lib.hid alloc_sol
  generalize zSOL = Z at HSZZ HZ1 HZV HAL ⊢
  clear hS hV hV1 hszz hszv hz1 hzv hrd hok hwk
  go_enter Tryz.func50, Tryz.ntmps50
  go_upto_region 0 with fail
  refine wp_region_lit ?_
  refine wpList_allocT (o := ⟨some 8, .alloc 87, _, _, _, _⟩) rfl 87 Z (fun W => HAL.out W _ rfl _) ?_; intro w1 HK1 HB1
  rw [HS.out] at HK1 ⊢
  by_cases hnm : n = many
  · have HRD2 := Lib.hid (fun hg W hB => HRD.out ⟨hnm, hg⟩ W hB)
    have HWK2 := Lib.hid (fun W hB => HWK.out hnm W hB)
    subst hnm
    have f1 : ((n : Int) != (n : Int)) = false := by simp
    have hok1 : w1.cell? ⟨OK, 0, none⟩ = some (.func (.func 48) #[] #[]) := (HB1.out.cell (p := ⟨OK, 0, none⟩) (block_lt_of_cell HOK.out)).trans HOK.out
    cases good with
    | true =>
      go_wp2_with fail
      refine wp_loop_rounds 2 ?_
      rw [rounds_succ]
      go_wp2_with fail
      refine (HWK2.out w1 HB1.out).mono ?_; rintro e wx ⟨rfl, rfl⟩
      go_wp2_with fail
      rw [rounds_succ]
      go_wp2_with fail
      refine (HRD2.out trivial w1 HB1.out).mono ?_; rintro e w2 ⟨rfl, hB2⟩
      have HK2 : Hid (Blk w2 S 87 Z) := Lib.hid (HK1.out.keep (Keeps.of_below (M := fun _ => False) hB2) (fun h => h))
      have HB2 := Lib.hid (HB1.out.trans (hB2.mono HB1.out.size))
      clear hB2
      go_wp2_with (first | (refine wpList_over (o := ⟨none, .store 87 _ _, _, _, _, _⟩) rfl 87 _ _ rfl S V Z 87 rfl rfl HK2.out HZV.out HSZV.out HV1.out ?_; intro w3 HK3 hk3; have HB3 := Lib.hid (below_keeps HB2.out hk3.out (Nat.le_refl _) (fun i hi => by rw [hi, HS.out]; exact Nat.le_refl _)); clear hk3))
      refine bodyPost_ret (results_row_tmp rfl _ _ S V _ rfl HK3.out HU.out rfl HSZV.out) rfl ?_
      exact ⟨.inl ⟨by first | trivial | exact rfl | simp, rfl⟩, HB3.out⟩
    | false =>
      go_wp2_with fail
      refine wp_loop_rounds 2 ?_
      rw [rounds_succ]
      go_wp2_with fail
      refine (HWK2.out w1 HB1.out).mono ?_; rintro e wx ⟨rfl, rfl⟩
      go_upto_region 7 with fail
      refine wp_region_lit ?_
      refine wpList_loadT (o := ⟨some 27, .load 87 _, _, _, _, _⟩) rfl 87 _ rfl S rfl 87 Z _ HK1.out HU.out rfl HSZZ.out ?_
      refine wpList_over (o := ⟨none, .store 87 _ _, _, _, _, _⟩) rfl 87 _ _ rfl S Z Z 87 rfl rfl HK1.out rfl HSZZ.out HZ1.out ?_; intro w2 HK2 hk2
      have HB2 := Lib.hid (below_keeps HB1.out hk2.out (Nat.le_refl _) (fun i hi => by rw [hi, HS.out]; exact Nat.le_refl _))
      clear hk2
      go_wp2_with fail
      refine bodyPost_ret (results_row_tmp rfl _ _ S Z _ rfl HK2.out HU.out rfl HSZZ.out) rfl ?_
      exact ⟨.inr ⟨by simp, rfl⟩, HB2.out⟩
  · have f1 : ((n : Int) != (many : Int)) = true := by simp; omega
    have HNM := Lib.hid hnm
    clear hnm
    go_upto_region 2 with fail
    refine wp_region_lit ?_
    refine wpList_loadT (o := ⟨some 16, .load 87 _, _, _, _, _⟩) rfl 87 _ rfl S rfl 87 Z _ HK1.out HU.out rfl HSZZ.out ?_
    refine wpList_over (o := ⟨none, .store 87 _ _, _, _, _, _⟩) rfl 87 _ _ rfl S Z Z 87 rfl rfl HK1.out rfl HSZZ.out HZ1.out ?_; intro w2 HK2 hk2
    have HB2 := Lib.hid (below_keeps HB1.out hk2.out (Nat.le_refl _) (fun i hi => by rw [hi, HS.out]; exact Nat.le_refl _))
    clear hk2
    go_wp2_with fail
    refine bodyPost_ret (results_row_tmp rfl _ _ S Z _ rfl HK2.out HU.out rfl HSZZ.out) rfl ?_
    exact ⟨.inr ⟨fun h => HNM.out h.1, rfl⟩, HB2.out⟩

end Go.Proofs.YtgecfcdafbedaaaGreat

namespace Go.Proofs.YtgecfcdafbedaaaGreat
set_option linter.unusedSimpArgs false
set_option linter.unusedVariables false

/-- Up to a multiple of 8. -/
def fill8 (n : Nat) : Nat := (n + 7) / 8 * 8
/-- A piece: its type, and its body. -/
abbrev Piece := Int × List Int
def pieceB (p : Piece) : List Int := be p.1 2 ++ be p.2.length 2 ++ p.2 ++ List.replicate (fill8 (4 + p.2.length) - (4 + p.2.length)) 0
def pieces : List Piece → List Int
  | [] => []
  | p :: l => pieceB p ++ pieces l
/-- The types rise. -/
def rises : Int → List Piece → Bool
  | _, [] => true
  | last, p :: l => decide (last < p.1) && rises p.1 l
/-- What Put answers. -/
def putE (l : List Piece) : Int :=
  if rises 0 l = false then 1 else if 16 < l.length then 3 else if l.any (fun p => decide (2048 < p.2.length)) then 3 else if 2048 < (pieces l).length then 3 else 0
/-- What Get answers, from some bytes on. -/
def getGo : Nat → Int → List Piece → List Int → Int × List Piece
  | 0, _, _, _ => (4, [])
  | f + 1, last, out, b =>
    if b.length = 0 then (0, out) else if b.length < 4 then (5, [])
    else if b.length < fill8 (4 + (told ((b.drop 2).take 2)).toNat) then (5, [])
    else if told (b.take 2) ≤ last then (4, [])
    else if ((b.drop (4 + (told ((b.drop 2).take 2)).toNat)).take (fill8 (4 + (told ((b.drop 2).take 2)).toNat) - (4 + (told ((b.drop 2).take 2)).toNat))).any (fun x => decide (x ≠ 0)) then (4, [])
    else if 16 ≤ out.length then (3, [])
    else getGo f (told (b.take 2)) (out ++ [(told (b.take 2), (b.drop 4).take (told ((b.drop 2).take 2)).toNat)]) (b.drop (fill8 (4 + (told ((b.drop 2).take 2)).toNat)))
def paGet (b : List Int) : Int × List Piece := if 2048 < b.length then (3, []) else getGo (b.length + 1) 0 [] b
/-- A piece that can be: a type, and bytes. -/
def okPiece (p : Piece) : Prop := 0 ≤ p.1 ∧ p.1 ≤ 65535 ∧ ∀ x ∈ p.2, 0 ≤ x ∧ x ≤ 255

theorem fill8_ge (n : Nat) : n ≤ fill8 n ∧ fill8 n < n + 8 ∧ fill8 n % 8 = 0 := by unfold fill8; omega
theorem pieceB_length (p : Piece) : (pieceB p).length = fill8 (4 + p.2.length) := by
  have := fill8_ge (4 + p.2.length)
  simp only [pieceB, List.length_append, be_length, List.length_replicate]; omega
theorem pieces_append (l m : List Piece) : pieces (l ++ m) = pieces l ++ pieces m := by
  induction l with
  | nil => rfl
  | cons p l ih => simp only [List.cons_append, pieces, ih, List.append_assoc]
theorem pieces_mod (l : List Piece) : (pieces l).length % 8 = 0 := by
  induction l with
  | nil => rfl
  | cons p l ih => rw [pieces, List.length_append, pieceB_length]; have := fill8_ge (4 + p.2.length); omega
theorem pieces_byte : ∀ (l : List Piece), (∀ p ∈ l, okPiece p) → ∀ x ∈ pieces l, 0 ≤ x ∧ x ≤ 255
  | [], _, x, hx => by simp [pieces] at hx
  | p :: l, h, x, hx => by
    rw [pieces, List.mem_append] at hx
    rcases hx with hx | hx
    · simp only [pieceB, List.mem_append, List.mem_replicate] at hx
      rcases hx with ((hx | hx) | hx) | hx
      · exact be_byte _ _ x hx
      · exact be_byte _ _ x hx
      · exact (h p (by simp)).2.2 x hx
      · obtain ⟨_, rfl⟩ := hx; omega
    · exact pieces_byte l (fun q hq => h q (by simp [hq])) x hx
/-- The head of a piece's bytes. -/
theorem pieceB_parts (p : Piece) (m : List Int) (h : okPiece p) (hn : p.2.length < 65536) :
    told ((pieceB p ++ m).take 2) = p.1 ∧ (told (((pieceB p ++ m).drop 2).take 2)).toNat = p.2.length ∧ ((pieceB p ++ m).drop 4).take p.2.length = p.2 ∧
    ((pieceB p ++ m).drop (4 + p.2.length)).take (fill8 (4 + p.2.length) - (4 + p.2.length)) = List.replicate (fill8 (4 + p.2.length) - (4 + p.2.length)) 0 ∧ (pieceB p ++ m).drop (fill8 (4 + p.2.length)) = m := by
  obtain ⟨t, l⟩ := p
  simp only [pieceB] at *
  have e1 : (be t 2).length = 2 := be_length 2 t
  have e2 : (be (l.length : Int) 2).length = 2 := be_length 2 _
  have t1 : told (be t 2) = t := told_be 2 t h.1 (by have := h.2.1; simp [pow256]; omega)
  have t2 : told (be (l.length : Int) 2) = l.length := told_be 2 _ (by omega) (by simp [pow256]; omega)
  generalize be t 2 = x at *
  generalize be (l.length : Int) 2 = y at *
  have hf := fill8_ge (4 + l.length)
  generalize fill8 (4 + l.length) = F at *
  refine ⟨?_, ?_, ?_, ?_, ?_⟩
  · rw [List.append_assoc, List.append_assoc, List.append_assoc, List.take_append_of_le_length (by omega), List.take_of_length_le (by omega), t1]
  · rw [List.append_assoc, List.append_assoc, List.append_assoc, List.drop_append_of_le_length (by omega), List.drop_of_length_le (by omega), List.nil_append, List.take_append_of_le_length (by omega), List.take_of_length_le (by omega), t2]; omega
  · rw [List.append_assoc, List.append_assoc, List.drop_append_of_le_length (by simp; omega), List.drop_of_length_le (by simp; omega), List.nil_append, List.take_append_of_le_length (by omega), List.take_of_length_le (by omega)]
  · rw [List.append_assoc, List.drop_append_of_le_length (by simp; omega), List.drop_of_length_le (by simp; omega), List.nil_append, List.take_append_of_le_length (by simp), List.take_of_length_le (by simp)]
  · rw [List.drop_append_of_le_length (by simp; omega), List.drop_of_length_le (by simp; omega), List.nil_append]

/-- What is put is got. -/
theorem getGo_pieces : ∀ (l : List Piece) (f : Nat) (last : Int) (out : List Piece), (∀ p ∈ l, okPiece p) → (∀ p ∈ l, p.2.length ≤ 2048) → rises last l = true → out.length + l.length ≤ 16 → (pieces l).length < f → getGo f last out (pieces l) = (0, out ++ l)
  | [], f, last, out, _, _, _, _, hf => by
    obtain ⟨f, rfl⟩ : ∃ g, f = g + 1 := ⟨f - 1, by omega⟩
    simp [getGo, pieces]
  | p :: l, f, last, out, hk, hb, hr, ho, hf => by
    obtain ⟨f, rfl⟩ : ∃ g, f = g + 1 := ⟨f - 1, by omega⟩
    have hp := hb p (by simp)
    obtain ⟨e1, e2, e3, e4, e5⟩ := pieceB_parts p (pieces l) (hk p (by simp)) (by omega)
    have hF := fill8_ge (4 + p.2.length)
    have hl : (pieceB p ++ pieces l).length = fill8 (4 + p.2.length) + (pieces l).length := by rw [List.length_append, pieceB_length]
    rw [pieces, hl] at hf
    simp only [rises, Bool.and_eq_true, decide_eq_true_eq] at hr
    rw [pieces, getGo, e1, e2, e3, e4, e5, hl]
    rw [if_neg (by omega), if_neg (by omega), if_neg (by omega), if_neg (by omega), if_neg (by simp [List.any_replicate]), if_neg (by simp at ho; omega)]
    rw [getGo_pieces l f p.1 _ (fun q hq => hk q (by simp [hq])) (fun q hq => hb q (by simp [hq])) hr.2 (by simp at ho ⊢; omega) (by omega)]
    simp
/-- What is got is what is put. -/
theorem getGo_back : ∀ (f : Nat) (last : Int) (out r : List Piece) (b : List Int), (∀ x ∈ b, 0 ≤ x ∧ x ≤ 255) → getGo f last out b = (0, r) →
    ∃ l, r = out ++ l ∧ pieces l = b ∧ rises last l = true ∧ (l ≠ [] → r.length ≤ 16) ∧ (∀ p ∈ l, okPiece p ∧ p.2.length ≤ b.length)
  | 0, last, out, r, b, _, h => by simp [getGo] at h
  | f + 1, last, out, r, b, hb, h => by
    rw [getGo] at h
    split at h
    · rename_i h0
      injection h with _ h; subst h
      exact ⟨[], by simp, by rw [List.eq_nil_of_length_eq_zero h0]; rfl, rfl, by simp, by simp⟩
    · split at h
      · cases h
      · split at h
        · cases h
        · split at h
          · cases h
          · split at h
            · cases h
            · split at h
              · cases h
              · rename_i h0 h4 hF ht hz ho
                obtain ⟨n, hn⟩ : ∃ n, (told ((b.drop 2).take 2)).toNat = n := ⟨_, rfl⟩
                rw [hn] at h hF hz
                have hfb := fill8_ge (4 + n)
                have hd : ∀ x ∈ b.drop (fill8 (4 + n)), 0 ≤ x ∧ x ≤ 255 := fun x hx => hb x (List.mem_of_mem_drop hx)
                obtain ⟨l, e1, e2, e3, e4, e5⟩ := getGo_back f _ _ _ _ hd h
                have hF0 : (b.drop 4).length = b.length - 4 := by simp
                have hlen : ((b.drop 4).take n).length = n := by rw [List.length_take, hF0]; omega
                have htb : ∀ x ∈ b.take 2, 0 ≤ x ∧ x ≤ 255 := fun x hx => hb x (List.mem_of_mem_take hx)
                have hnb : ∀ x ∈ (b.drop 2).take 2, 0 ≤ x ∧ x ≤ 255 := fun x hx => hb x (List.mem_of_mem_drop (List.mem_of_mem_take hx))
                have hT := told_bounds _ htb
                have hN := told_bounds _ hnb
                have hl1 : (b.take 2).length = 2 := by rw [List.length_take]; omega
                have hl2 : ((b.drop 2).take 2).length = 2 := by rw [List.length_take, List.length_drop]; omega
                have hb1 : be (told (b.take 2)) 2 = b.take 2 := by have := be_told _ htb; rwa [hl1] at this
                have hb2 : be ((n : Nat) : Int) 2 = (b.drop 2).take 2 := by
                  have := be_told _ hnb
                  rw [hl2] at this
                  rw [← hn, Int.toNat_of_nonneg hN.1]; exact this
                have hz' : (b.drop (4 + n)).take (fill8 (4 + n) - (4 + n)) = List.replicate (fill8 (4 + n) - (4 + n)) 0 := by
                  refine List.eq_replicate_iff.2 ⟨by rw [List.length_take, List.length_drop]; omega, fun x hx => ?_⟩
                  have hz2 : ((b.drop (4 + n)).take (fill8 (4 + n) - (4 + n))).any (fun x => decide (x ≠ 0)) = false := by simpa using hz
                  rw [List.any_eq_false] at hz2
                  have := hz2 x hx
                  simpa using this
                have hx : pieceB (told (b.take 2), (b.drop 4).take n) ++ b.drop (fill8 (4 + n)) = b := by
                  simp only [pieceB]
                  rw [hlen, hb1, hb2, ← hz']
                  have a1 : (b.drop (4 + n)).take (fill8 (4 + n) - (4 + n)) ++ b.drop (fill8 (4 + n)) = b.drop (4 + n) := by
                    have := List.take_append_drop (fill8 (4 + n) - (4 + n)) (b.drop (4 + n))
                    rwa [List.drop_drop, show 4 + n + (fill8 (4 + n) - (4 + n)) = fill8 (4 + n) by omega] at this
                  have a2 : (b.drop 4).take n ++ b.drop (4 + n) = b.drop 4 := by
                    have := List.take_append_drop n (b.drop 4)
                    rwa [List.drop_drop] at this
                  have a3 : (b.drop 2).take 2 ++ b.drop 4 = b.drop 2 := by
                    have := List.take_append_drop 2 (b.drop 2)
                    rwa [List.drop_drop] at this
                  rw [List.append_assoc, a1, List.append_assoc, a2, List.append_assoc, a3]
                  exact List.take_append_drop 2 b
                refine ⟨(told (b.take 2), (b.drop 4).take n) :: l, ?_, ?_, ?_, ?_, ?_⟩
                · rw [e1, List.append_assoc]; rfl
                · rw [pieces, e2]; exact hx
                · simp only [rises, Bool.and_eq_true, decide_eq_true_eq]; exact ⟨by omega, e3⟩
                · intro _
                  by_cases hl : l = []
                  · subst hl; rw [e1]; simp; omega
                  · exact e4 hl
                · intro p hp
                  rcases List.mem_cons.1 hp with rfl | hp
                  · refine ⟨⟨hT.1, ?_, fun x hx => hb x (List.mem_of_mem_drop (List.mem_of_mem_take hx))⟩, ?_⟩
                    · have := hT.2; rw [hl1] at this; simp [pow256] at this; simp only; omega
                    · simp only; rw [hlen]; omega
                  · have := e5 p hp
                    rw [List.length_drop] at this
                    exact ⟨this.1, by omega⟩
/-- Get of what Put makes. -/
theorem paGet_put {l : List Piece} (hk : ∀ p ∈ l, okPiece p) (h : putE l = 0) : paGet (pieces l) = (0, l) := by
  unfold putE at h
  split at h
  · cases h
  · split at h
    · cases h
    · split at h
      · cases h
      · split at h
        · cases h
        · rename_i h1 h2 h3 h4
          rw [paGet, if_neg h4]
          have := getGo_pieces l ((pieces l).length + 1) 0 [] hk (fun p hp => by
            have h5 : l.any (fun p => decide (2048 < p.2.length)) = false := by simpa using h3
            rw [List.any_eq_false] at h5
            have := h5 p hp
            simp at this; omega) (by simpa using h1) (by simp; omega) (by omega)
          simpa using this
/-- Put of what Get tells. -/
theorem paPut_get {l : List Piece} {b : List Int} (hb : ∀ x ∈ b, 0 ≤ x ∧ x ≤ 255) (h : paGet b = (0, l)) : putE l = 0 ∧ pieces l = b ∧ ∀ p ∈ l, okPiece p := by
  unfold paGet at h
  split at h
  · cases h
  · rename_i hlen
    obtain ⟨m, e1, e2, e3, e4, e5⟩ := getGo_back _ _ _ _ _ hb h
    rw [List.nil_append] at e1
    subst e1
    refine ⟨?_, e2, fun p hp => (e5 p hp).1⟩
    unfold putE
    rw [e2, e3, if_neg (by simp), if_neg ?_, if_neg ?_, if_neg hlen]
    · rw [List.any_eq_true]
      rintro ⟨p, hp, h5⟩
      have := (e5 p hp).2
      simp at h5; omega
    · by_cases hl : l = []
      · subst hl; simp
      · have := e4 hl; omega
end Go.Proofs.YtgecfcdafbedaaaGreat
