/- The walks over params.exactly, at each kind of body. (Printed by wip/mkbd.py.); The walks over params.exactly at uint32, GetCount, PutCount, of any bytes. -/
import Derived.Test.YtlcnjdpfijgcdaaZRParamsBodiesBack24
import Derived.Deep.CutRange
import Derived.Test.YtlcnjdpfijgcdaaZRParamsBodiesBack22
namespace Go.Proofs.Ytlcnjdpfijgcdaa
open Go.RowKit
set_option linter.unusedSimpArgs false
set_option linter.unusedVariables false

/-- What exactly answers. -/
def ExAns (C : Prop) (v z : Value) (e : Ending) : Prop := (C ∧ e = .returned (.tuple #[v, .int .i64 0])) ∨ (¬ C ∧ e = .returned (.tuple #[z, .int .i64 4]))
set_option maxRecDepth 100000 in
set_option maxHeartbeats 4000000 in
theorem exsum_any (A : Option Addr) (n c many : Nat) (V : List Value) (w : World) (hn : n ≤ 140737488351232) (hm : many ≤ 1000) (hV : V.length = 32) (hV1 : ∀ v ∈ V, v.oneCell' = true) 
    (hrd : n = many → ∀ W, Below w.heap.size w W → Calls Try.prog 39 #[.slice A n c] W fun e w' => e = .returned (.agg V.toArray) ∧ Below W.heap.size W w') :
    Calls Try.prog 38 #[.slice A n c, .int .i64 (many : Int), .func (.func 39) #[] #[], .slice none 0 0] w fun e w' =>
      ExAns (n = many) (.agg V.toArray) (.agg zSum.toArray) e ∧ Below w.heap.size w w' := by
  obtain ⟨S, hS⟩ : ∃ S, w.heap.size = S := ⟨_, rfl⟩
  have HS := Lib.hid hS
  have HU := Lib.hid Try.underlying26
  have hszz : (Try.prog.info? 26).map (·.size) = some zSum.length := by kernel_rfl
  have hszv : (Try.prog.info? 26).map (·.size) = some V.length := by rw [hV]; exact size_sum
  have hz1 : ∀ v ∈ zSum, v.oneCell' = true := by decide
  have hzv : V.length = zSum.length := by rw [hV]; rfl
  have HSZZ := Lib.hid hszz
  have HSZV := Lib.hid hszv
  have HZ1 := Lib.hid hz1
  have HV1 := Lib.hid hV1
  have HZV := Lib.hid hzv
  have HRD := Lib.hid hrd
  have HAL := Lib.hid alloc_sum
  generalize zSum = Z at HSZZ HZ1 HZV HAL ⊢
  clear hS hV hV1 hszz hszv hz1 hzv hrd 
  go_enter Try.func38, Try.ntmps38
  go_upto_region 0 with fail
  refine wp_region_lit ?_
  refine wpList_allocT (o := ⟨some 8, .alloc 26, _, _, _, _⟩) rfl 26 Z (fun W => HAL.out W _ rfl _) ?_; intro w1 HK1 HB1
  rw [HS.out] at HK1 ⊢
  by_cases hnm : n = many
  · have HRD2 := Lib.hid (fun W hB => HRD.out hnm W hB)
    subst hnm
    have f1 : ((n : Int) != (n : Int)) = false := by simp
    go_wp2_with fail
    refine wp_loop_rounds 1 ?_
    rw [rounds_succ]
    go_wp2_with fail
    refine (HRD2.out w1 HB1.out).mono ?_; rintro e w2 ⟨rfl, hB2⟩
    have HK2 : Hid (Blk w2 S 26 Z) := Lib.hid (HK1.out.keep (Keeps.of_below (M := fun _ => False) hB2) (fun h => h))
    have HB2 := Lib.hid (HB1.out.trans (hB2.mono HB1.out.size))
    clear hB2
    go_wp2_with (first | (refine wpList_over (o := ⟨none, .store 26 _ _, _, _, _, _⟩) rfl 26 _ _ rfl S V Z 26 rfl rfl HK2.out HZV.out HSZV.out HV1.out ?_; intro w3 HK3 hk3; have HB3 := Lib.hid (below_keeps HB2.out hk3.out (Nat.le_refl _) (fun i hi => by rw [hi, HS.out]; exact Nat.le_refl _)); clear hk3))
    refine bodyPost_ret (results_row_tmp rfl _ _ S V _ rfl HK3.out HU.out rfl HSZV.out) rfl ?_
    exact ⟨.inl ⟨by first | trivial | exact rfl | simp, rfl⟩, HB3.out⟩
  · have f1 : ((n : Int) != (many : Int)) = true := by simp; omega
    have HNM := Lib.hid hnm
    clear hnm
    go_upto_region 2 with fail
    refine wp_region_lit ?_
    refine wpList_loadT (o := ⟨some 16, .load 26 _, _, _, _, _⟩) rfl 26 _ rfl S rfl 26 Z _ HK1.out HU.out rfl HSZZ.out ?_
    refine wpList_over (o := ⟨none, .store 26 _ _, _, _, _, _⟩) rfl 26 _ _ rfl S Z Z 26 rfl rfl HK1.out rfl HSZZ.out HZ1.out ?_; intro w2 HK2 hk2
    have HB2 := Lib.hid (below_keeps HB1.out hk2.out (Nat.le_refl _) (fun i hi => by rw [hi, HS.out]; exact Nat.le_refl _))
    clear hk2
    go_wp2_with fail
    refine bodyPost_ret (results_row_tmp rfl _ _ S Z _ rfl HK2.out HU.out rfl HSZZ.out) rfl ?_
    exact ⟨.inr ⟨HNM.out, rfl⟩, HB2.out⟩

def zARR2 : List Value := [.int .u32 0, .int .u32 0]
theorem alloc_arr2 (W : World) (o : Oper) (ho : o.op = .alloc 78) (ev : Operand → Value) : (execOp ev o).run Try.prog W = .ok (.value (.pointer (some ⟨W.heap.size, 0, none⟩))) (W.alloc (.cells zARR2.toArray 78)) := by
  obtain ⟨d, op, t, p, af, g⟩ := o
  simp only at ho
  subst ho
  kernel_rfl
theorem size_arr2 : (Try.prog.info? 78).map (·.size) = some 2 := by kernel_rfl
set_option maxRecDepth 100000 in
set_option maxHeartbeats 4000000 in
theorem exarr2_any (A : Option Addr) (n c many : Nat) (V : List Value) (w : World) (hn : n ≤ 140737488351232) (hm : many ≤ 1000) (hV : V.length = 2) (hV1 : ∀ v ∈ V, v.oneCell' = true) 
    (hrd : n = many → ∀ W, Below w.heap.size w W → Calls Try.prog 30 #[.slice A n c] W fun e w' => e = .returned (.agg V.toArray) ∧ Below W.heap.size W w') :
    Calls Try.prog 29 #[.slice A n c, .int .i64 (many : Int), .func (.func 30) #[] #[], .slice none 0 0] w fun e w' =>
      ExAns (n = many) (.agg V.toArray) (.agg zARR2.toArray) e ∧ Below w.heap.size w w' := by
  obtain ⟨S, hS⟩ : ∃ S, w.heap.size = S := ⟨_, rfl⟩
  have HS := Lib.hid hS
  have HU := Lib.hid Try.underlying78
  have hszz : (Try.prog.info? 78).map (·.size) = some zARR2.length := by kernel_rfl
  have hszv : (Try.prog.info? 78).map (·.size) = some V.length := by rw [hV]; exact size_arr2
  have hz1 : ∀ v ∈ zARR2, v.oneCell' = true := by decide
  have hzv : V.length = zARR2.length := by rw [hV]; rfl
  have HSZZ := Lib.hid hszz
  have HSZV := Lib.hid hszv
  have HZ1 := Lib.hid hz1
  have HV1 := Lib.hid hV1
  have HZV := Lib.hid hzv
  have HRD := Lib.hid hrd
  have HAL := Lib.hid alloc_arr2
  generalize zARR2 = Z at HSZZ HZ1 HZV HAL ⊢
  clear hS hV hV1 hszz hszv hz1 hzv hrd 
  go_enter Try.func29, Try.ntmps29
  go_upto_region 0 with fail
  refine wp_region_lit ?_
  refine wpList_allocT (o := ⟨some 8, .alloc 78, _, _, _, _⟩) rfl 78 Z (fun W => HAL.out W _ rfl _) ?_; intro w1 HK1 HB1
  rw [HS.out] at HK1 ⊢
  by_cases hnm : n = many
  · have HRD2 := Lib.hid (fun W hB => HRD.out hnm W hB)
    subst hnm
    have f1 : ((n : Int) != (n : Int)) = false := by simp
    go_wp2_with fail
    refine wp_loop_rounds 1 ?_
    rw [rounds_succ]
    go_wp2_with fail
    refine (HRD2.out w1 HB1.out).mono ?_; rintro e w2 ⟨rfl, hB2⟩
    have HK2 : Hid (Blk w2 S 78 Z) := Lib.hid (HK1.out.keep (Keeps.of_below (M := fun _ => False) hB2) (fun h => h))
    have HB2 := Lib.hid (HB1.out.trans (hB2.mono HB1.out.size))
    clear hB2
    go_wp2_with (first | (refine wpList_over (o := ⟨none, .store 78 _ _, _, _, _, _⟩) rfl 78 _ _ rfl S V Z 78 rfl rfl HK2.out HZV.out HSZV.out HV1.out ?_; intro w3 HK3 hk3; have HB3 := Lib.hid (below_keeps HB2.out hk3.out (Nat.le_refl _) (fun i hi => by rw [hi, HS.out]; exact Nat.le_refl _)); clear hk3))
    refine bodyPost_ret (results_row_tmp rfl _ _ S V _ rfl HK3.out HU.out rfl HSZV.out) rfl ?_
    exact ⟨.inl ⟨by first | trivial | exact rfl | simp, rfl⟩, HB3.out⟩
  · have f1 : ((n : Int) != (many : Int)) = true := by simp; omega
    have HNM := Lib.hid hnm
    clear hnm
    go_upto_region 2 with fail
    refine wp_region_lit ?_
    refine wpList_loadT (o := ⟨some 16, .load 78 _, _, _, _, _⟩) rfl 78 _ rfl S rfl 78 Z _ HK1.out HU.out rfl HSZZ.out ?_
    refine wpList_over (o := ⟨none, .store 78 _ _, _, _, _, _⟩) rfl 78 _ _ rfl S Z Z 78 rfl rfl HK1.out rfl HSZZ.out HZ1.out ?_; intro w2 HK2 hk2
    have HB2 := Lib.hid (below_keeps HB1.out hk2.out (Nat.le_refl _) (fun i hi => by rw [hi, HS.out]; exact Nat.le_refl _))
    clear hk2
    go_wp2_with fail
    refine bodyPost_ret (results_row_tmp rfl _ _ S Z _ rfl HK2.out HU.out rfl HSZZ.out) rfl ?_
    exact ⟨.inr ⟨HNM.out, rfl⟩, HB2.out⟩

def zNUM : List Value := (List.replicate 4 (0 : Int)).map (Value.int .u64)
theorem alloc_num (W : World) (o : Oper) (ho : o.op = .alloc 30) (ev : Operand → Value) : (execOp ev o).run Try.prog W = .ok (.value (.pointer (some ⟨W.heap.size, 0, none⟩))) (W.alloc (.cells zNUM.toArray 30)) := by
  obtain ⟨d, op, t, p, af, g⟩ := o
  simp only at ho
  subst ho
  kernel_rfl
theorem size_num : (Try.prog.info? 30).map (·.size) = some 4 := by kernel_rfl
set_option maxRecDepth 100000 in
set_option maxHeartbeats 4000000 in
theorem exnum_any (A : Option Addr) (n c many : Nat) (V : List Value) (w : World) (hn : n ≤ 140737488351232) (hm : many ≤ 1000) (hV : V.length = 4) (hV1 : ∀ v ∈ V, v.oneCell' = true) 
    (hrd : n = many → ∀ W, Below w.heap.size w W → Calls Try.prog 36 #[.slice A n c] W fun e w' => e = .returned (.agg V.toArray) ∧ Below W.heap.size W w') :
    Calls Try.prog 35 #[.slice A n c, .int .i64 (many : Int), .func (.func 36) #[] #[], .slice none 0 0] w fun e w' =>
      ExAns (n = many) (.agg V.toArray) (.agg zNUM.toArray) e ∧ Below w.heap.size w w' := by
  obtain ⟨S, hS⟩ : ∃ S, w.heap.size = S := ⟨_, rfl⟩
  have HS := Lib.hid hS
  have HU := Lib.hid Try.underlying30
  have hszz : (Try.prog.info? 30).map (·.size) = some zNUM.length := by kernel_rfl
  have hszv : (Try.prog.info? 30).map (·.size) = some V.length := by rw [hV]; exact size_num
  have hz1 : ∀ v ∈ zNUM, v.oneCell' = true := by decide
  have hzv : V.length = zNUM.length := by rw [hV]; rfl
  have HSZZ := Lib.hid hszz
  have HSZV := Lib.hid hszv
  have HZ1 := Lib.hid hz1
  have HV1 := Lib.hid hV1
  have HZV := Lib.hid hzv
  have HRD := Lib.hid hrd
  have HAL := Lib.hid alloc_num
  generalize zNUM = Z at HSZZ HZ1 HZV HAL ⊢
  clear hS hV hV1 hszz hszv hz1 hzv hrd 
  go_enter Try.func35, Try.ntmps35
  go_upto_region 0 with fail
  refine wp_region_lit ?_
  refine wpList_allocT (o := ⟨some 8, .alloc 30, _, _, _, _⟩) rfl 30 Z (fun W => HAL.out W _ rfl _) ?_; intro w1 HK1 HB1
  rw [HS.out] at HK1 ⊢
  by_cases hnm : n = many
  · have HRD2 := Lib.hid (fun W hB => HRD.out hnm W hB)
    subst hnm
    have f1 : ((n : Int) != (n : Int)) = false := by simp
    go_wp2_with fail
    refine wp_loop_rounds 1 ?_
    rw [rounds_succ]
    go_wp2_with fail
    refine (HRD2.out w1 HB1.out).mono ?_; rintro e w2 ⟨rfl, hB2⟩
    have HK2 : Hid (Blk w2 S 30 Z) := Lib.hid (HK1.out.keep (Keeps.of_below (M := fun _ => False) hB2) (fun h => h))
    have HB2 := Lib.hid (HB1.out.trans (hB2.mono HB1.out.size))
    clear hB2
    go_wp2_with (first | (refine wpList_over (o := ⟨none, .store 30 _ _, _, _, _, _⟩) rfl 30 _ _ rfl S V Z 30 rfl rfl HK2.out HZV.out HSZV.out HV1.out ?_; intro w3 HK3 hk3; have HB3 := Lib.hid (below_keeps HB2.out hk3.out (Nat.le_refl _) (fun i hi => by rw [hi, HS.out]; exact Nat.le_refl _)); clear hk3))
    refine bodyPost_ret (results_row_tmp rfl _ _ S V _ rfl HK3.out HU.out rfl HSZV.out) rfl ?_
    exact ⟨.inl ⟨by first | trivial | exact rfl | simp, rfl⟩, HB3.out⟩
  · have f1 : ((n : Int) != (many : Int)) = true := by simp; omega
    have HNM := Lib.hid hnm
    clear hnm
    go_upto_region 2 with fail
    refine wp_region_lit ?_
    refine wpList_loadT (o := ⟨some 16, .load 30 _, _, _, _, _⟩) rfl 30 _ rfl S rfl 30 Z _ HK1.out HU.out rfl HSZZ.out ?_
    refine wpList_over (o := ⟨none, .store 30 _ _, _, _, _, _⟩) rfl 30 _ _ rfl S Z Z 30 rfl rfl HK1.out rfl HSZZ.out HZ1.out ?_; intro w2 HK2 hk2
    have HB2 := Lib.hid (below_keeps HB1.out hk2.out (Nat.le_refl _) (fun i hi => by rw [hi, HS.out]; exact Nat.le_refl _))
    clear hk2
    go_wp2_with fail
    refine bodyPost_ret (results_row_tmp rfl _ _ S Z _ rfl HK2.out HU.out rfl HSZZ.out) rfl ?_
    exact ⟨.inr ⟨HNM.out, rfl⟩, HB2.out⟩

def zSIG : List Value := (List.replicate 8 (0 : Int)).map (Value.int .u64)
theorem alloc_sig (W : World) (o : Oper) (ho : o.op = .alloc 32) (ev : Operand → Value) : (execOp ev o).run Try.prog W = .ok (.value (.pointer (some ⟨W.heap.size, 0, none⟩))) (W.alloc (.cells zSIG.toArray 32)) := by
  obtain ⟨d, op, t, p, af, g⟩ := o
  simp only at ho
  subst ho
  kernel_rfl
theorem size_sig : (Try.prog.info? 32).map (·.size) = some 8 := by kernel_rfl
set_option maxRecDepth 100000 in
set_option maxHeartbeats 4000000 in
theorem exsig_any (A : Option Addr) (n c many : Nat) (V : List Value) (w : World) (hn : n ≤ 140737488351232) (hm : many ≤ 1000) (hV : V.length = 8) (hV1 : ∀ v ∈ V, v.oneCell' = true) 
    (hrd : n = many → ∀ W, Below w.heap.size w W → Calls Try.prog 42 #[.slice A n c] W fun e w' => e = .returned (.agg V.toArray) ∧ Below W.heap.size W w') :
    Calls Try.prog 41 #[.slice A n c, .int .i64 (many : Int), .func (.func 42) #[] #[], .slice none 0 0] w fun e w' =>
      ExAns (n = many) (.agg V.toArray) (.agg zSIG.toArray) e ∧ Below w.heap.size w w' := by
  obtain ⟨S, hS⟩ : ∃ S, w.heap.size = S := ⟨_, rfl⟩
  have HS := Lib.hid hS
  have HU := Lib.hid Try.underlying32
  have hszz : (Try.prog.info? 32).map (·.size) = some zSIG.length := by kernel_rfl
  have hszv : (Try.prog.info? 32).map (·.size) = some V.length := by rw [hV]; exact size_sig
  have hz1 : ∀ v ∈ zSIG, v.oneCell' = true := by decide
  have hzv : V.length = zSIG.length := by rw [hV]; rfl
  have HSZZ := Lib.hid hszz
  have HSZV := Lib.hid hszv
  have HZ1 := Lib.hid hz1
  have HV1 := Lib.hid hV1
  have HZV := Lib.hid hzv
  have HRD := Lib.hid hrd
  have HAL := Lib.hid alloc_sig
  generalize zSIG = Z at HSZZ HZ1 HZV HAL ⊢
  clear hS hV hV1 hszz hszv hz1 hzv hrd 
  go_enter Try.func41, Try.ntmps41
  go_upto_region 0 with fail
  refine wp_region_lit ?_
  refine wpList_allocT (o := ⟨some 8, .alloc 32, _, _, _, _⟩) rfl 32 Z (fun W => HAL.out W _ rfl _) ?_; intro w1 HK1 HB1
  rw [HS.out] at HK1 ⊢
  by_cases hnm : n = many
  · have HRD2 := Lib.hid (fun W hB => HRD.out hnm W hB)
    subst hnm
    have f1 : ((n : Int) != (n : Int)) = false := by simp
    go_wp2_with fail
    refine wp_loop_rounds 1 ?_
    rw [rounds_succ]
    go_wp2_with fail
    refine (HRD2.out w1 HB1.out).mono ?_; rintro e w2 ⟨rfl, hB2⟩
    have HK2 : Hid (Blk w2 S 32 Z) := Lib.hid (HK1.out.keep (Keeps.of_below (M := fun _ => False) hB2) (fun h => h))
    have HB2 := Lib.hid (HB1.out.trans (hB2.mono HB1.out.size))
    clear hB2
    go_wp2_with (first | (refine wpList_over (o := ⟨none, .store 32 _ _, _, _, _, _⟩) rfl 32 _ _ rfl S V Z 32 rfl rfl HK2.out HZV.out HSZV.out HV1.out ?_; intro w3 HK3 hk3; have HB3 := Lib.hid (below_keeps HB2.out hk3.out (Nat.le_refl _) (fun i hi => by rw [hi, HS.out]; exact Nat.le_refl _)); clear hk3))
    refine bodyPost_ret (results_row_tmp rfl _ _ S V _ rfl HK3.out HU.out rfl HSZV.out) rfl ?_
    exact ⟨.inl ⟨by first | trivial | exact rfl | simp, rfl⟩, HB3.out⟩
  · have f1 : ((n : Int) != (many : Int)) = true := by simp; omega
    have HNM := Lib.hid hnm
    clear hnm
    go_upto_region 2 with fail
    refine wp_region_lit ?_
    refine wpList_loadT (o := ⟨some 16, .load 32 _, _, _, _, _⟩) rfl 32 _ rfl S rfl 32 Z _ HK1.out HU.out rfl HSZZ.out ?_
    refine wpList_over (o := ⟨none, .store 32 _ _, _, _, _, _⟩) rfl 32 _ _ rfl S Z Z 32 rfl rfl HK1.out rfl HSZZ.out HZ1.out ?_; intro w2 HK2 hk2
    have HB2 := Lib.hid (below_keeps HB1.out hk2.out (Nat.le_refl _) (fun i hi => by rw [hi, HS.out]; exact Nat.le_refl _))
    clear hk2
    go_wp2_with fail
    refine bodyPost_ret (results_row_tmp rfl _ _ S Z _ rfl HK2.out HU.out rfl HSZZ.out) rfl ?_
    exact ⟨.inr ⟨HNM.out, rfl⟩, HB2.out⟩

def zPUZ : List Value := [.int .u8 0, .int .u64 0] ++ (List.replicate 32 (0 : Int)).map (Value.int .u8)
theorem alloc_puz (W : World) (o : Oper) (ho : o.op = .alloc 28) (ev : Operand → Value) : (execOp ev o).run Try.prog W = .ok (.value (.pointer (some ⟨W.heap.size, 0, none⟩))) (W.alloc (.cells zPUZ.toArray 28)) := by
  obtain ⟨d, op, t, p, af, g⟩ := o
  simp only at ho
  subst ho
  kernel_rfl
theorem size_puz : (Try.prog.info? 28).map (·.size) = some 34 := by kernel_rfl
set_option maxRecDepth 100000 in
set_option maxHeartbeats 4000000 in
theorem expuz_any (A : Option Addr) (n c many : Nat) (good : Bool) (V : List Value) (w : World) (hn : n ≤ 140737488351232) (hm : many ≤ 1000) (hV : V.length = 34) (hV1 : ∀ v ∈ V, v.oneCell' = true) (OK : Nat) (hok : w.cell? ⟨OK, 0, none⟩ = some (.func (.func 45) #[] #[])) (hwk : n = many → ∀ W, Below w.heap.size w W → Calls Try.prog 45 #[.slice A n c] W fun e w' => e = .returned (.bool good) ∧ W = w')
    (hrd : n = many ∧ good = true → ∀ W, Below w.heap.size w W → Calls Try.prog 44 #[.slice A n c] W fun e w' => e = .returned (.agg V.toArray) ∧ Below W.heap.size W w') :
    Calls Try.prog 43 #[.slice A n c, .int .i64 (many : Int), .func (.func 44) #[] #[], .slice (some ⟨OK, 0, none⟩) 1 1] w fun e w' =>
      ExAns (n = many ∧ good = true) (.agg V.toArray) (.agg zPUZ.toArray) e ∧ Below w.heap.size w w' := by
  obtain ⟨S, hS⟩ : ∃ S, w.heap.size = S := ⟨_, rfl⟩
  have HS := Lib.hid hS
  have HU := Lib.hid Try.underlying28
  have hszz : (Try.prog.info? 28).map (·.size) = some zPUZ.length := by kernel_rfl
  have hszv : (Try.prog.info? 28).map (·.size) = some V.length := by rw [hV]; exact size_puz
  have hz1 : ∀ v ∈ zPUZ, v.oneCell' = true := by decide
  have hzv : V.length = zPUZ.length := by rw [hV]; rfl
  have HSZZ := Lib.hid hszz
  have HSZV := Lib.hid hszv
  have HZ1 := Lib.hid hz1
  have HV1 := Lib.hid hV1
  have HZV := Lib.hid hzv
  have HRD := Lib.hid hrd
  have HOK := Lib.hid hok
  have HWK := Lib.hid hwk
  have HAL := Lib.hid alloc_puz
  generalize zPUZ = Z at HSZZ HZ1 HZV HAL ⊢
  clear hS hV hV1 hszz hszv hz1 hzv hrd hok hwk
  go_enter Try.func43, Try.ntmps43
  go_upto_region 0 with fail
  refine wp_region_lit ?_
  refine wpList_allocT (o := ⟨some 8, .alloc 28, _, _, _, _⟩) rfl 28 Z (fun W => HAL.out W _ rfl _) ?_; intro w1 HK1 HB1
  rw [HS.out] at HK1 ⊢
  by_cases hnm : n = many
  · have HRD2 := Lib.hid (fun hg W hB => HRD.out ⟨hnm, hg⟩ W hB)
    have HWK2 := Lib.hid (fun W hB => HWK.out hnm W hB)
    subst hnm
    have f1 : ((n : Int) != (n : Int)) = false := by simp
    have hok1 : w1.cell? ⟨OK, 0, none⟩ = some (.func (.func 45) #[] #[]) := (HB1.out.cell (p := ⟨OK, 0, none⟩) (block_lt_of_cell HOK.out)).trans HOK.out
    cases good with
    | true =>
      go_wp2_with fail
      refine wp_loop_rounds 2 ?_
      rw [rounds_succ]
      go_wp2_with fail
      refine (HWK2.out w1 HB1.out).mono ?_; rintro e wx ⟨rfl, rfl⟩
      go_wp2_with fail
      rw [rounds_succ]
      go_wp2_with fail
      refine (HRD2.out trivial w1 HB1.out).mono ?_; rintro e w2 ⟨rfl, hB2⟩
      have HK2 : Hid (Blk w2 S 28 Z) := Lib.hid (HK1.out.keep (Keeps.of_below (M := fun _ => False) hB2) (fun h => h))
      have HB2 := Lib.hid (HB1.out.trans (hB2.mono HB1.out.size))
      clear hB2
      go_wp2_with (first | (refine wpList_over (o := ⟨none, .store 28 _ _, _, _, _, _⟩) rfl 28 _ _ rfl S V Z 28 rfl rfl HK2.out HZV.out HSZV.out HV1.out ?_; intro w3 HK3 hk3; have HB3 := Lib.hid (below_keeps HB2.out hk3.out (Nat.le_refl _) (fun i hi => by rw [hi, HS.out]; exact Nat.le_refl _)); clear hk3))
      refine bodyPost_ret (results_row_tmp rfl _ _ S V _ rfl HK3.out HU.out rfl HSZV.out) rfl ?_
      exact ⟨.inl ⟨by first | trivial | exact rfl | simp, rfl⟩, HB3.out⟩
    | false =>
      go_wp2_with fail
      refine wp_loop_rounds 2 ?_
      rw [rounds_succ]
      go_wp2_with fail
      refine (HWK2.out w1 HB1.out).mono ?_; rintro e wx ⟨rfl, rfl⟩
      go_upto_region 7 with fail
      refine wp_region_lit ?_
      refine wpList_loadT (o := ⟨some 27, .load 28 _, _, _, _, _⟩) rfl 28 _ rfl S rfl 28 Z _ HK1.out HU.out rfl HSZZ.out ?_
      refine wpList_over (o := ⟨none, .store 28 _ _, _, _, _, _⟩) rfl 28 _ _ rfl S Z Z 28 rfl rfl HK1.out rfl HSZZ.out HZ1.out ?_; intro w2 HK2 hk2
      have HB2 := Lib.hid (below_keeps HB1.out hk2.out (Nat.le_refl _) (fun i hi => by rw [hi, HS.out]; exact Nat.le_refl _))
      clear hk2
      go_wp2_with fail
      refine bodyPost_ret (results_row_tmp rfl _ _ S Z _ rfl HK2.out HU.out rfl HSZZ.out) rfl ?_
      exact ⟨.inr ⟨by simp, rfl⟩, HB2.out⟩
  · have f1 : ((n : Int) != (many : Int)) = true := by simp; omega
    have HNM := Lib.hid hnm
    clear hnm
    go_upto_region 2 with fail
    refine wp_region_lit ?_
    refine wpList_loadT (o := ⟨some 16, .load 28 _, _, _, _, _⟩) rfl 28 _ rfl S rfl 28 Z _ HK1.out HU.out rfl HSZZ.out ?_
    refine wpList_over (o := ⟨none, .store 28 _ _, _, _, _, _⟩) rfl 28 _ _ rfl S Z Z 28 rfl rfl HK1.out rfl HSZZ.out HZ1.out ?_; intro w2 HK2 hk2
    have HB2 := Lib.hid (below_keeps HB1.out hk2.out (Nat.le_refl _) (fun i hi => by rw [hi, HS.out]; exact Nat.le_refl _))
    clear hk2
    go_wp2_with fail
    refine bodyPost_ret (results_row_tmp rfl _ _ S Z _ rfl HK2.out HU.out rfl HSZZ.out) rfl ?_
    exact ⟨.inr ⟨fun h => HNM.out h.1, rfl⟩, HB2.out⟩

def zSOL : List Value := [.int .u8 0, .int .u64 0] ++ (List.replicate 64 (0 : Int)).map (Value.int .u8)
theorem alloc_sol (W : World) (o : Oper) (ho : o.op = .alloc 96) (ev : Operand → Value) : (execOp ev o).run Try.prog W = .ok (.value (.pointer (some ⟨W.heap.size, 0, none⟩))) (W.alloc (.cells zSOL.toArray 96)) := by
  obtain ⟨d, op, t, p, af, g⟩ := o
  simp only at ho
  subst ho
  kernel_rfl
theorem size_sol : (Try.prog.info? 96).map (·.size) = some 66 := by kernel_rfl
set_option maxRecDepth 100000 in
set_option maxHeartbeats 4000000 in
theorem exsol_any (A : Option Addr) (n c many : Nat) (good : Bool) (V : List Value) (w : World) (hn : n ≤ 140737488351232) (hm : many ≤ 1000) (hV : V.length = 66) (hV1 : ∀ v ∈ V, v.oneCell' = true) (OK : Nat) (hok : w.cell? ⟨OK, 0, none⟩ = some (.func (.func 45) #[] #[])) (hwk : n = many → ∀ W, Below w.heap.size w W → Calls Try.prog 45 #[.slice A n c] W fun e w' => e = .returned (.bool good) ∧ W = w')
    (hrd : n = many ∧ good = true → ∀ W, Below w.heap.size w W → Calls Try.prog 47 #[.slice A n c] W fun e w' => e = .returned (.agg V.toArray) ∧ Below W.heap.size W w') :
    Calls Try.prog 46 #[.slice A n c, .int .i64 (many : Int), .func (.func 47) #[] #[], .slice (some ⟨OK, 0, none⟩) 1 1] w fun e w' =>
      ExAns (n = many ∧ good = true) (.agg V.toArray) (.agg zSOL.toArray) e ∧ Below w.heap.size w w' := by
  obtain ⟨S, hS⟩ : ∃ S, w.heap.size = S := ⟨_, rfl⟩
  have HS := Lib.hid hS
  have HU := Lib.hid Try.underlying96
  have hszz : (Try.prog.info? 96).map (·.size) = some zSOL.length := by kernel_rfl
  have hszv : (Try.prog.info? 96).map (·.size) = some V.length := by rw [hV]; exact size_sol
  have hz1 : ∀ v ∈ zSOL, v.oneCell' = true := by decide
  have hzv : V.length = zSOL.length := by rw [hV]; rfl
  have HSZZ := Lib.hid hszz
  have HSZV := Lib.hid hszv
  have HZ1 := Lib.hid hz1
  have HV1 := Lib.hid hV1
  have HZV := Lib.hid hzv
  have HRD := Lib.hid hrd
  have HOK := Lib.hid hok
  have HWK := Lib.hid hwk
  have HAL := Lib.hid alloc_sol
  generalize zSOL = Z at HSZZ HZ1 HZV HAL ⊢
  clear hS hV hV1 hszz hszv hz1 hzv hrd hok hwk
  go_enter Try.func46, Try.ntmps46
  go_upto_region 0 with fail
  refine wp_region_lit ?_
  refine wpList_allocT (o := ⟨some 8, .alloc 96, _, _, _, _⟩) rfl 96 Z (fun W => HAL.out W _ rfl _) ?_; intro w1 HK1 HB1
  rw [HS.out] at HK1 ⊢
  by_cases hnm : n = many
  · have HRD2 := Lib.hid (fun hg W hB => HRD.out ⟨hnm, hg⟩ W hB)
    have HWK2 := Lib.hid (fun W hB => HWK.out hnm W hB)
    subst hnm
    have f1 : ((n : Int) != (n : Int)) = false := by simp
    have hok1 : w1.cell? ⟨OK, 0, none⟩ = some (.func (.func 45) #[] #[]) := (HB1.out.cell (p := ⟨OK, 0, none⟩) (block_lt_of_cell HOK.out)).trans HOK.out
    cases good with
    | true =>
      go_wp2_with fail
      refine wp_loop_rounds 2 ?_
      rw [rounds_succ]
      go_wp2_with fail
      refine (HWK2.out w1 HB1.out).mono ?_; rintro e wx ⟨rfl, rfl⟩
      go_wp2_with fail
      rw [rounds_succ]
      go_wp2_with fail
      refine (HRD2.out trivial w1 HB1.out).mono ?_; rintro e w2 ⟨rfl, hB2⟩
      have HK2 : Hid (Blk w2 S 96 Z) := Lib.hid (HK1.out.keep (Keeps.of_below (M := fun _ => False) hB2) (fun h => h))
      have HB2 := Lib.hid (HB1.out.trans (hB2.mono HB1.out.size))
      clear hB2
      go_wp2_with (first | (refine wpList_over (o := ⟨none, .store 96 _ _, _, _, _, _⟩) rfl 96 _ _ rfl S V Z 96 rfl rfl HK2.out HZV.out HSZV.out HV1.out ?_; intro w3 HK3 hk3; have HB3 := Lib.hid (below_keeps HB2.out hk3.out (Nat.le_refl _) (fun i hi => by rw [hi, HS.out]; exact Nat.le_refl _)); clear hk3))
      refine bodyPost_ret (results_row_tmp rfl _ _ S V _ rfl HK3.out HU.out rfl HSZV.out) rfl ?_
      exact ⟨.inl ⟨by first | trivial | exact rfl | simp, rfl⟩, HB3.out⟩
    | false =>
      go_wp2_with fail
      refine wp_loop_rounds 2 ?_
      rw [rounds_succ]
      go_wp2_with fail
      refine (HWK2.out w1 HB1.out).mono ?_; rintro e wx ⟨rfl, rfl⟩
      go_upto_region 7 with fail
      refine wp_region_lit ?_
      refine wpList_loadT (o := ⟨some 27, .load 96 _, _, _, _, _⟩) rfl 96 _ rfl S rfl 96 Z _ HK1.out HU.out rfl HSZZ.out ?_
      refine wpList_over (o := ⟨none, .store 96 _ _, _, _, _, _⟩) rfl 96 _ _ rfl S Z Z 96 rfl rfl HK1.out rfl HSZZ.out HZ1.out ?_; intro w2 HK2 hk2
      have HB2 := Lib.hid (below_keeps HB1.out hk2.out (Nat.le_refl _) (fun i hi => by rw [hi, HS.out]; exact Nat.le_refl _))
      clear hk2
      go_wp2_with fail
      refine bodyPost_ret (results_row_tmp rfl _ _ S Z _ rfl HK2.out HU.out rfl HSZZ.out) rfl ?_
      exact ⟨.inr ⟨by simp, rfl⟩, HB2.out⟩
  · have f1 : ((n : Int) != (many : Int)) = true := by simp; omega
    have HNM := Lib.hid hnm
    clear hnm
    go_upto_region 2 with fail
    refine wp_region_lit ?_
    refine wpList_loadT (o := ⟨some 16, .load 96 _, _, _, _, _⟩) rfl 96 _ rfl S rfl 96 Z _ HK1.out HU.out rfl HSZZ.out ?_
    refine wpList_over (o := ⟨none, .store 96 _ _, _, _, _, _⟩) rfl 96 _ _ rfl S Z Z 96 rfl rfl HK1.out rfl HSZZ.out HZ1.out ?_; intro w2 HK2 hk2
    have HB2 := Lib.hid (below_keeps HB1.out hk2.out (Nat.le_refl _) (fun i hi => by rw [hi, HS.out]; exact Nat.le_refl _))
    clear hk2
    go_wp2_with fail
    refine bodyPost_ret (results_row_tmp rfl _ _ S Z _ rfl HK2.out HU.out rfl HSZZ.out) rfl ?_
    exact ⟨.inr ⟨fun h => HNM.out h.1, rfl⟩, HB2.out⟩

end Go.Proofs.Ytlcnjdpfijgcdaa

namespace Go.Proofs.Ytlcnjdpfijgcdaa
open Go.RowKit
set_option linter.unusedSimpArgs false
set_option linter.unusedVariables false

theorem pow256_mono {a b : Nat} (h : a ≤ b) : pow256 a ≤ pow256 b := by
  induction b with
  | zero => obtain rfl : a = 0 := by omega
            exact Int.le_refl _
  | succ k ih =>
    rcases Nat.lt_or_ge k a with h1 | h1
    · obtain rfl : a = k + 1 := by omega
      exact Int.le_refl _
    · have := ih h1
      have := pow256_pos k
      simp only [pow256]
      omega
theorem told_lt {l : List Int} {m : Nat} (h : ∀ x ∈ l, 0 ≤ x ∧ x ≤ 255) (hl : l.length ≤ m) : 0 ≤ told l ∧ told l < pow256 m := by
  obtain ⟨h1, h2⟩ := told_bounds l h
  have := pow256_mono hl
  exact ⟨h1, by omega⟩
theorem told4 {w : World} {A : Option Addr} {n : Nat} {bs : List Int} (r : Rd w .u8 A n bs) : 0 ≤ told (bs.take 4) ∧ told (bs.take 4) ≤ 4294967295 := by
  have h := told_lt (l := bs.take 4) (m := 4) (fun x hx => rd_bytes r x (List.mem_of_mem_take hx)) (by simp; omega)
  have e : pow256 4 = 4294967296 := by decide
  omega
theorem told8d {bs : List Int} (hb : ∀ x ∈ bs, 0 ≤ x ∧ x ≤ 255) (k : Nat) : 0 ≤ told ((bs.drop k).take 8) ∧ told ((bs.drop k).take 8) ≤ 18446744073709551615 := by
  have h := told_lt (l := (bs.drop k).take 8) (m := 8) (fun x hx => hb x (List.mem_of_mem_drop (List.mem_of_mem_take hx))) (by simp; omega)
  have e : pow256 8 = 18446744073709551616 := by decide
  omega
set_option maxHeartbeats 1000000 in
theorem exact_not (A : Option Addr) (n c : Nat) (w : World) (h : n ≠ 4) (hn : n ≤ 140737488351232) :
    Calls Try.prog 32 #[.slice A n c, .int .i64 4, .func (.func 31) #[] #[], .slice none 0 0] w fun e w' => e = .returned (.tuple #[.int .u32 0, .int .i64 4]) ∧ w = w' := by
  have f1 : ((n : Int) != 4) = true := by simp; omega
  clear h
  go_enter Try.func32, Try.ntmps32
  go_wp2_with fail
  go_ret2
  exact ⟨rfl, rfl⟩
/-- What GetCount answers. -/
def cntV (bs : List Int) (n : Nat) : Int := if n = 4 then told (bs.take 4) else 0
def cntE (n : Nat) : Int := if n = 4 then 0 else 4
set_option maxHeartbeats 1000000 in
theorem getcount_any (A : Option Addr) (n c : Nat) (bs : List Int) (w : World) (r : Rd w .u8 A n bs) (l : n ≤ c) :
    Calls Try.prog 7 #[.slice A n c] w fun e w' => e = .returned (.tuple #[.int .u32 (cntV bs n), .int .i64 (cntE n)]) ∧ Below w.heap.size w w' := by
  by_cases h : n = 4
  · subst h
    obtain ⟨h0, h1⟩ := told4 r
    have := count_any A c bs _ w r l rfl h0 h1
    simpa [cntV, cntE] using this
  · have H := Lib.hid (exact_not A n c w h r.big)
    have e1 : cntV bs n = 0 := if_neg h
    have e2 : cntE n = 4 := if_neg h
    rw [e1, e2]
    clear e1 e2 h r
    go_enter Try.func7, Try.ntmps7
    go_wp2_with fail
    refine H.out.mono ?_; rintro e w1 ⟨rfl, rfl⟩
    go_wp2_with fail
    go_ret2
    exact ⟨rfl, Below.refl _ _⟩
set_option maxHeartbeats 1000000 in
theorem putcount_any (v : Int) (w : World) (h0 : 0 ≤ v) (h1 : v ≤ 4294967295) : Calls Try.prog 8 #[.int .u32 v] w (Made w (be v 4)) := by
  have hw : IntKind.u64.wrap v = v := IntWalk.u64_in _ (by omega)
  have hp := put_any none 0 0 [] v 4 w ⟨rfl, by omega, fun x hx => by simp at hx, fun h => by omega⟩ (Nat.le_refl _) h0 (by omega)
  have e4 : putMany 4 = 4 := by decide
  rw [e4, List.nil_append] at hp
  have HP := Lib.hid hp
  clear hp e4
  go_enter Try.func8, Try.ntmps8
  go_wp2_with fail
  refine HP.out.mono ?_; rintro e w1 ⟨g, hg, rfl, hk, hB⟩
  have HF := Lib.hid (And.intro hg (And.intro hk hB))
  clear hg hk hB
  go_wp2_with fail
  refine (clip_all (some ⟨g, 0, none⟩) _ _ w1 (Nat.le_refl _)).mono ?_; rintro e w2 ⟨rfl, rfl⟩
  go_wp2_with fail
  go_ret
  exact ⟨g, HF.out.1, rfl, HF.out.2.1, HF.out.2.2⟩
end Go.Proofs.Ytlcnjdpfijgcdaa
