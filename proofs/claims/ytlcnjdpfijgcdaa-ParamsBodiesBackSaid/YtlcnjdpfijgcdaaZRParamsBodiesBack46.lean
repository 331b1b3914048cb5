/- The walk over the law ParamsBodiesBack. (Printed by wip/mkbb.py.). -/
import Derived.Test.YtlcnjdpfijgcdaaZRParamsBodiesBack45
namespace Go.Proofs.Ytlcnjdpfijgcdaa
open Go.RowKit
set_option linter.unusedSimpArgs false
set_option linter.unusedVariables false

def bodC (x y : Int) (A : Option Addr) (n c : Nat) (P J C D : List Value) : List Value := [.int .u32 x, .int .u32 y, .slice A n c] ++ (P ++ (J ++ (C ++ D)))
theorem bod_parts {W : World} {B : Nat} {t : TypeId} {x y u : Int} {A : Option Addr} {n c : Nat} {P J C D : List Value} (hP : P.length = 34) (hJ : J.length = 32) (hP0 : P[0]? = some (.int .u8 u)) (h : Blk W B t (bodC x y A n c P J C D)) :
    W.cell? ⟨B, 0, none⟩ = some (.int .u32 x) ∧ W.cell? ⟨B, 1, none⟩ = some (.int .u32 y) ∧ W.cell? ⟨B, 2, none⟩ = some (.slice A n c) ∧ W.cell? ⟨B, 3, none⟩ = some (.int .u8 u) ∧
      W.rangeAt B 3 P ∧ W.rangeAt B 37 J ∧ W.rangeAt B 69 (C ++ D) ∧ W.rangeAt B 69 C := by
  have h1 := (range_two (X1 := [.int .u32 x, .int .u32 y, .slice A n c]) h.range).2
  rw [show 0 + [Value.int .u32 x, Value.int .u32 y, Value.slice A n c].length = 3 from rfl] at h1
  obtain ⟨h2, h3⟩ := range_two h1
  rw [hP] at h3
  obtain ⟨h4, h5⟩ := range_two h3
  rw [hJ] at h5
  exact ⟨h.cell 0, h.cell 1, h.cell 2, h2 0 _ hP0, h2, h4, h5, (range_two h5).1⟩
set_option maxRecDepth 100000 in
set_option maxHeartbeats 16000000 in
theorem bback_at {w : World} {B n c : Nat} {A : Option Addr} {xs : List Int} {CS P J C S : List Value} {x y u : Int} {lb jb gb pb sb : List Int} (hBw : w.heap.size = B) (h2 : CS[2]? = some (.slice A n c)) (hr : Rd w .u32 A n xs) (hnc : n ≤ c) (hn : n ≤ 35184372087808) (hx : 0 ≤ x ∧ x ≤ 4294967295) (hy : 0 ≤ y ∧ y ≤ 4294967295)
    (hcell : ∀ W, Blk W B 34 CS → W.cell? ⟨B, 0, none⟩ = some (.int .u32 x) ∧ W.cell? ⟨B, 1, none⟩ = some (.int .u32 y) ∧ W.cell? ⟨B, 2, none⟩ = some (.slice A n c) ∧ W.cell? ⟨B, 3, none⟩ = some (.int .u8 u) ∧ W.rangeAt B 3 P ∧ W.rangeAt B 37 J ∧ W.rangeAt B 69 S ∧ W.rangeAt B 69 C) (hP : P.length = 34) (hJ : J.length = 32) (hC : C.length = 4) (hS : S.length = 8) (hP1 : ∀ v ∈ P, v.oneCell' = true) (hJ1 : ∀ v ∈ J, v.oneCell' = true) (hC1 : ∀ v ∈ C, v.oneCell' = true) (hS1 : ∀ v ∈ S, v.oneCell' = true) (hpp : ∀ W, Calls Try.prog 16 #[.agg P.toArray] W (NewRd W 41 pb)) (hpg : ∀ g cc W, Rd W .u8 (some ⟨g, 0, none⟩) 41 pb → 41 ≤ cc → Calls Try.prog 15 #[.slice (some ⟨g, 0, none⟩) 41 cc] W fun e w' => ∃ Z E, e = .returned (.tuple #[.agg Z.toArray, .int .i64 E]) ∧ PuzT u P Z E ∧ Below W.heap.size W w') (hop : ∀ W, Calls Try.prog 18 #[.agg P.toArray, .agg J.toArray] W (NewRd W 73 sb)) (hog : ∀ g cc W, Rd W .u8 (some ⟨g, 0, none⟩) 73 sb → 73 ≤ cc → Calls Try.prog 17 #[.slice (some ⟨g, 0, none⟩) 73 cc] W fun e w' => ∃ Z Y E, e = .returned (.tuple #[.agg Z.toArray, .agg Y.toArray, .int .i64 E]) ∧ SolT u P J Z Y E ∧ Below W.heap.size W w') (hej : ∀ W, Sem.run Try.prog (Op.equalIn 10000 26 (.agg J.toArray) (.agg J.toArray)) W = .ok true W) (hep : ∀ W, Sem.run Try.prog (Op.equalIn 10000 28 (.agg P.toArray) (.agg P.toArray)) W = .ok true W) (hec : ∀ W, Sem.run Try.prog (Op.equalIn 10000 30 (.agg C.toArray) (.agg C.toArray)) W = .ok true W) (hes : ∀ W, Sem.run Try.prog (Op.equalIn 10000 32 (.agg S.toArray) (.agg S.toArray)) W = .ok true W) (hlp : ∀ W, Calls Try.prog 10 #[.agg C.toArray] W (NewRd W 32 lb)) (hlg : ∀ g cc W, Rd W .u8 (some ⟨g, 0, none⟩) 32 lb → 32 ≤ cc → Calls Try.prog 9 #[.slice (some ⟨g, 0, none⟩) 32 cc] W fun e w' => e = .returned (.tuple #[.agg C.toArray, .int .i64 0]) ∧ Below W.heap.size W w') (hjp : ∀ W, Calls Try.prog 12 #[.agg J.toArray] W (NewRd W 32 jb)) (hjg : ∀ g cc W, Rd W .u8 (some ⟨g, 0, none⟩) 32 jb → 32 ≤ cc → Calls Try.prog 11 #[.slice (some ⟨g, 0, none⟩) 32 cc] W fun e w' => e = .returned (.tuple #[.agg J.toArray, .int .i64 0]) ∧ Below W.heap.size W w') (hgp : ∀ W, Calls Try.prog 14 #[.agg S.toArray] W (NewRd W 64 gb)) (hgg : ∀ g cc W, Rd W .u8 (some ⟨g, 0, none⟩) 64 gb → 64 ≤ cc → Calls Try.prog 13 #[.slice (some ⟨g, 0, none⟩) 64 cc] W fun e w' => e = .returned (.tuple #[.agg S.toArray, .int .i64 0]) ∧ Below W.heap.size W w') :
    Calls Try.prog 3 #[.agg CS.toArray] w fun e w' => e = .returned (.bool true) ∧ Below w.heap.size w w' := by
  have HSZC : Hid ((Try.prog.info? 30).map (·.size) = some C.length) := Lib.hid (by rw [hC]; exact size_num)
  have HSZJ : Hid ((Try.prog.info? 26).map (·.size) = some J.length) := Lib.hid (by rw [hJ]; exact size_sum)
  have HSZS : Hid ((Try.prog.info? 32).map (·.size) = some S.length) := Lib.hid (by rw [hS]; exact size_sig)
  have HSZP : Hid ((Try.prog.info? 28).map (·.size) = some P.length) := Lib.hid (by rw [hP]; exact size_puz)
  have HUNUM := Lib.hid Try.underlying30
  have HUSUM := Lib.hid Try.underlying26
  have HUSIG := Lib.hid Try.underlying32
  have HUPUZ := Lib.hid Try.underlying28
  have HP := Lib.hid hP
  have HJ := Lib.hid hJ
  have HC := Lib.hid hC
  have HSL := Lib.hid hS
  clear hP hJ hC hS
  have HANUM := Lib.hid alloc_num
  have HZNUM : Hid (zNUM.length = 4) := Lib.hid rfl
  have HASUM := Lib.hid alloc_sum
  have HZSUM : Hid (zSum.length = 32) := Lib.hid (by rfl)
  have HASIG := Lib.hid alloc_sig
  have HZSIG : Hid (zSIG.length = 8) := Lib.hid rfl
  have HAPUZ := Lib.hid alloc_puz
  have HZPUZ : Hid (zPUZ.length = 34) := Lib.hid (by rfl)
  generalize zNUM = ZN at HANUM HZNUM
  generalize zSum = ZS at HASUM HZSUM
  generalize zSIG = ZG at HASIG HZSIG
  generalize zPUZ = ZP at HAPUZ HZPUZ
  have HLA := Lib.hid (fun W => lane_put x y W hx hy)
  have HLAG := Lib.hid (fun g c W r l => lane_got x y g c W r l hx hy)
  have HCO := Lib.hid (fun W => count_put x W hx)
  have HCOG := Lib.hid (fun g c W r l => count_got x g c W r l hx)
  have HS := Lib.hid hBw
  have HCELL := Lib.hid hcell
  have HPP := Lib.hid hpp
  have HPG := Lib.hid hpg
  have HOP := Lib.hid hop
  have HOG := Lib.hid hog
  have HEJ := Lib.hid hej
  have HEP := Lib.hid hep
  have HEC := Lib.hid hec
  have HES := Lib.hid hes
  have HR := Lib.hid hr
  have HN := Lib.hid hn
  have H2 := Lib.hid h2
  have HNC := Lib.hid hnc
  have HP1 := Lib.hid hP1
  have HJ1 := Lib.hid hJ1
  have HC1 := Lib.hid hC1
  have HS1 := Lib.hid hS1
  have HLP := Lib.hid hlp
  have HLG := Lib.hid hlg
  have HJP := Lib.hid hjp
  have HJG := Lib.hid hjg
  have HGP := Lib.hid hgp
  have HGG := Lib.hid hgg
  clear hBw hcell hpp hpg hop hog hej hep hec hes hr hn h2 hnc hP1 hJ1 hC1 hS1 hlp hlg hjp hjg hgp hgg
  go_enter Try.func3, Try.ntmps3
  go_upto_region 0 with fail
  refine wp_region_lit ?_
  refine wpList_boxT (o := ⟨some 1, .box 34 _, _, _, _, _⟩) rfl 34 _ rfl CS rfl ?_; intro w1 HK1 HB1
  rw [HS.out] at HK1 ⊢
  refine wpList_read (o := ⟨some 2, _, _, _, _, _⟩) (v := ?_) (by rfl) ?_ ?_
  rotate_left
  · go_simp
    all_goals with_reducible rfl
  (try simp only [Act.put, List.setIfInBounds_toArray, List.set_cons_zero, List.set_cons_succ])
  obtain ⟨k0, k1, k2, k3, -⟩ := HCELL.out w1 HK1.out
  go_wp2_with fail
  clear k0 k1 k2 k3
  refine (HLA.out w1).mono ?_; rintro e w2 ⟨g2, c2, rfl, l2, r2, hB2⟩
  have R2 := Lib.hid r2
  clear r2
  have HB2 := Lib.hid (HB1.out.trans (hB2.mono HB1.out.size))
  have HK2 := Lib.hid (HK1.out.below hB2 HK1.out.lt)
  clear hB2 HK1
  go_wp2_with fail
  refine (HLAG.out g2 c2 w2 R2.out l2).mono ?_; rintro e w3 ⟨rfl, hB3⟩
  clear R2
  have HB3 := Lib.hid (HB2.out.trans (hB3.mono HB2.out.size))
  have HK3 := Lib.hid (HK2.out.below hB3 HK2.out.lt)
  clear hB3 HK2
  obtain ⟨k0, k1, k2, k3, -⟩ := HCELL.out w3 HK3.out
  go_wp2_with fail
  clear k0 k1 k2 k3
  refine (HCO.out w3).mono ?_; rintro e w4 ⟨g4, c4, rfl, l4, r4, hB4⟩
  have R4 := Lib.hid r4
  clear r4
  have HB4 := Lib.hid (HB3.out.trans (hB4.mono HB3.out.size))
  have HK4 := Lib.hid (HK3.out.below hB4 HK3.out.lt)
  clear hB4 HK3
  go_wp2_with fail
  refine (HCOG.out g4 c4 w4 R4.out l4).mono ?_; rintro e w5 ⟨rfl, hB5⟩
  clear R4
  have HB5 := Lib.hid (HB4.out.trans (hB5.mono HB4.out.size))
  have HK5 := Lib.hid (HK4.out.below hB5 HK4.out.lt)
  clear hB5 HK4
  go_upto_region 3 with fail
  refine wp_region_lit ?_
  obtain ⟨-, -, -, -, -, -, -, kc⟩ := HCELL.out w5 HK5.out
  refine wpList_read (o := ⟨some 43, _, _, _, _, _⟩) (v := ?_) (by rfl) ?_ ?_
  rotate_left
  · go_simp
    all_goals with_reducible rfl
  (try simp only [Act.put, List.setIfInBounds_toArray, List.set_cons_zero, List.set_cons_succ])
  refine wpList_read (o := ⟨some 44, _, _, _, _, _⟩) (v := ?_) (by rfl) ?_ ?_
  rotate_left
  · go_simp
    all_goals with_reducible rfl
  (try simp only [Act.put, List.setIfInBounds_toArray, List.set_cons_zero, List.set_cons_succ])
  refine wpList_want (o := ⟨some 45, .load 30 _, _, _, _, _⟩) (v := .agg C.toArray) (w' := _) (by rfl) (exec_loadM rfl B 69 rfl C _ kc HUNUM.out rfl HSZC.out) ?_
  (try simp only [Act.put, List.setIfInBounds_toArray, List.set_cons_zero, List.set_cons_succ])
  clear kc
  go_wp2_with fail
  refine (HLP.out w5).mono ?_; rintro e w6 ⟨g6, c6, rfl, l6, r6, hB6⟩
  have R6 := Lib.hid r6
  clear r6
  have HB6 := Lib.hid (HB5.out.trans (hB6.mono HB5.out.size))
  have HK6 := Lib.hid (HK5.out.below hB6 HK5.out.lt)
  clear hB6 HK5
  go_wp2_with fail
  refine (HLG.out g6 c6 w6 R6.out l6).mono ?_; rintro e w7 ⟨rfl, hB7⟩
  clear R6
  have HB7 := Lib.hid (HB6.out.trans (hB7.mono HB6.out.size))
  have HK7 := Lib.hid (HK6.out.below hB7 HK6.out.lt)
  clear hB7 HK6
  go_upto_region 4 with (first | ((with_reducible refine wpList_is (o := ⟨some 8, .alloc 30, _, _, _, _⟩) ?_); refine wpList_allocT (o := ⟨some 8, .alloc 30, _, _, _, _⟩) rfl 30 ZN (fun W => HANUM.out W _ rfl _) ?_; intro w8 HK' HB'; obtain ⟨T8, hN⟩ : ∃ N, w7.heap.size = N := ⟨_, rfl⟩; rw [hN] at HK' ⊢; have HLT8 := Lib.hid (show B < T8 by have := HK7.out.lt; omega); have HT8_8 := HK'; have HK8 := Lib.hid (HK7.out.below HB'.out HK7.out.lt); have HB8 := Lib.hid (HB7.out.trans (HB'.out.mono HB7.out.size)); have HWT8 := Lib.hid (show w.heap.size ≤ T8 by have := HB7.out.size; omega); clear HK' HB' hN) | ((with_reducible refine wpList_is (o := ⟨none, .store 30 (.tmp 8) _, _, _, _, _⟩) ?_); refine wpList_over (o := ⟨none, .store 30 (.tmp 8) _, _, _, _, _⟩) rfl 30 _ _ rfl T8 C ZN 30 rfl rfl HT8_8.out (by rw [HC.out, HZNUM.out]) HSZC.out HC1.out ?_; intro w9 HK' hk'; have HT8_9 := HK'; have HK9 := Lib.hid (HK8.out.keep hk'.out (fun h => by have := HLT8.out; omega)); have HB9 := Lib.hid (below_keeps HB8.out hk'.out (Nat.le_refl _) (fun i hi => by rw [hi]; exact HWT8.out)); clear HK' hk'))
  refine wp_region_lit ?_
  obtain ⟨-, -, -, -, -, kj, -⟩ := HCELL.out w9 HK9.out
  refine wpList_read (o := ⟨some 51, _, _, _, _, _⟩) (v := ?_) (by rfl) ?_ ?_
  rotate_left
  · go_simp
    all_goals with_reducible rfl
  (try simp only [Act.put, List.setIfInBounds_toArray, List.set_cons_zero, List.set_cons_succ])
  refine wpList_want (o := ⟨some 52, .load 26 _, _, _, _, _⟩) (v := .agg J.toArray) (w' := _) (by rfl) (exec_loadM rfl B 37 rfl J _ kj HUSUM.out rfl HSZJ.out) ?_
  (try simp only [Act.put, List.setIfInBounds_toArray, List.set_cons_zero, List.set_cons_succ])
  clear kj
  go_wp2_with fail
  refine (HJP.out w9).mono ?_; rintro e w10 ⟨g10, c10, rfl, l10, r10, hB10⟩
  have R10 := Lib.hid r10
  clear r10
  have HB10 := Lib.hid (HB9.out.trans (hB10.mono HB9.out.size))
  have HK10 := Lib.hid (HK9.out.below hB10 HK9.out.lt)
  have HT8_10 := Lib.hid (HT8_9.out.below hB10 HT8_9.out.lt)
  clear hB10 HK9 HT8_9
  go_wp2_with fail
  refine (HJG.out g10 c10 w10 R10.out l10).mono ?_; rintro e w11 ⟨rfl, hB11⟩
  clear R10
  have HB11 := Lib.hid (HB10.out.trans (hB11.mono HB10.out.size))
  have HK11 := Lib.hid (HK10.out.below hB11 HK10.out.lt)
  have HT8_11 := Lib.hid (HT8_10.out.below hB11 HT8_10.out.lt)
  clear hB11 HK10 HT8_10
  go_upto_region 5 with (first | ((with_reducible refine wpList_is (o := ⟨some 10, .alloc 26, _, _, _, _⟩) ?_); refine wpList_allocT (o := ⟨some 10, .alloc 26, _, _, _, _⟩) rfl 26 ZS (fun W => HASUM.out W _ rfl _) ?_; intro w12 HK' HB'; obtain ⟨T10, hN⟩ : ∃ N, w11.heap.size = N := ⟨_, rfl⟩; rw [hN] at HK' ⊢; have HLT10 := Lib.hid (show B < T10 by have := HK11.out.lt; omega); have HLT8T10 := Lib.hid (show T8 < T10 by have := HT8_11.out.lt; omega); have HT10_12 := HK'; have HK12 := Lib.hid (HK11.out.below HB'.out HK11.out.lt); have HT8_12 := Lib.hid (HT8_11.out.below HB'.out HT8_11.out.lt); have HB12 := Lib.hid (HB11.out.trans (HB'.out.mono HB11.out.size)); have HWT10 := Lib.hid (show w.heap.size ≤ T10 by have := HB11.out.size; omega); clear HK' HB' hN) | ((with_reducible refine wpList_is (o := ⟨none, .store 26 (.tmp 10) _, _, _, _, _⟩) ?_); refine wpList_over (o := ⟨none, .store 26 (.tmp 10) _, _, _, _, _⟩) rfl 26 _ _ rfl T10 J ZS 26 rfl rfl HT10_12.out (by rw [HJ.out, HZSUM.out]) HSZJ.out HJ1.out ?_; intro w13 HK' hk'; have HT10_13 := HK'; have HK13 := Lib.hid (HK12.out.keep hk'.out (fun h => by have := HLT10.out; omega)); have HT8_13 := Lib.hid (HT8_12.out.keep hk'.out (fun h => by have := HLT8T10.out; omega)); have HB13 := Lib.hid (below_keeps HB12.out hk'.out (Nat.le_refl _) (fun i hi => by rw [hi]; exact HWT10.out)); clear HK' hk'))
  refine wp_region_lit ?_
  obtain ⟨-, -, -, -, -, -, ks, -⟩ := HCELL.out w13 HK13.out
  refine wpList_read (o := ⟨some 58, _, _, _, _, _⟩) (v := ?_) (by rfl) ?_ ?_
  rotate_left
  · go_simp
    all_goals with_reducible rfl
  (try simp only [Act.put, List.setIfInBounds_toArray, List.set_cons_zero, List.set_cons_succ])
  refine wpList_want (o := ⟨some 59, .load 32 _, _, _, _, _⟩) (v := .agg S.toArray) (w' := _) (by rfl) (exec_loadM rfl B 69 rfl S _ ks HUSIG.out rfl HSZS.out) ?_
  (try simp only [Act.put, List.setIfInBounds_toArray, List.set_cons_zero, List.set_cons_succ])
  clear ks
  go_wp2_with fail
  refine (HGP.out w13).mono ?_; rintro e w14 ⟨g14, c14, rfl, l14, r14, hB14⟩
  have R14 := Lib.hid r14
  clear r14
  have HB14 := Lib.hid (HB13.out.trans (hB14.mono HB13.out.size))
  have HK14 := Lib.hid (HK13.out.below hB14 HK13.out.lt)
  have HT8_14 := Lib.hid (HT8_13.out.below hB14 HT8_13.out.lt)
  have HT10_14 := Lib.hid (HT10_13.out.below hB14 HT10_13.out.lt)
  clear hB14 HK13 HT8_13 HT10_13
  go_wp2_with fail
  refine (HGG.out g14 c14 w14 R14.out l14).mono ?_; rintro e w15 ⟨rfl, hB15⟩
  clear R14
  have HB15 := Lib.hid (HB14.out.trans (hB15.mono HB14.out.size))
  have HK15 := Lib.hid (HK14.out.below hB15 HK14.out.lt)
  have HT8_15 := Lib.hid (HT8_14.out.below hB15 HT8_14.out.lt)
  have HT10_15 := Lib.hid (HT10_14.out.below hB15 HT10_14.out.lt)
  clear hB15 HK14 HT8_14 HT10_14
  go_upto_region 6 with (first | ((with_reducible refine wpList_is (o := ⟨some 12, .alloc 32, _, _, _, _⟩) ?_); refine wpList_allocT (o := ⟨some 12, .alloc 32, _, _, _, _⟩) rfl 32 ZG (fun W => HASIG.out W _ rfl _) ?_; intro w16 HK' HB'; obtain ⟨T12, hN⟩ : ∃ N, w15.heap.size = N := ⟨_, rfl⟩; rw [hN] at HK' ⊢; have HLT12 := Lib.hid (show B < T12 by have := HK15.out.lt; omega); have HLT8T12 := Lib.hid (show T8 < T12 by have := HT8_15.out.lt; omega); have HLT10T12 := Lib.hid (show T10 < T12 by have := HT10_15.out.lt; omega); have HT12_16 := HK'; have HK16 := Lib.hid (HK15.out.below HB'.out HK15.out.lt); have HT8_16 := Lib.hid (HT8_15.out.below HB'.out HT8_15.out.lt); have HT10_16 := Lib.hid (HT10_15.out.below HB'.out HT10_15.out.lt); have HB16 := Lib.hid (HB15.out.trans (HB'.out.mono HB15.out.size)); have HWT12 := Lib.hid (show w.heap.size ≤ T12 by have := HB15.out.size; omega); clear HK' HB' hN) | ((with_reducible refine wpList_is (o := ⟨none, .store 32 (.tmp 12) _, _, _, _, _⟩) ?_); refine wpList_over (o := ⟨none, .store 32 (.tmp 12) _, _, _, _, _⟩) rfl 32 _ _ rfl T12 S ZG 32 rfl rfl HT12_16.out (by rw [HSL.out, HZSIG.out]) HSZS.out HS1.out ?_; intro w17 HK' hk'; have HT12_17 := HK'; have HK17 := Lib.hid (HK16.out.keep hk'.out (fun h => by have := HLT12.out; omega)); have HT8_17 := Lib.hid (HT8_16.out.keep hk'.out (fun h => by have := HLT8T12.out; omega)); have HT10_17 := Lib.hid (HT10_16.out.keep hk'.out (fun h => by have := HLT10T12.out; omega)); have HB17 := Lib.hid (below_keeps HB16.out hk'.out (Nat.le_refl _) (fun i hi => by rw [hi]; exact HWT12.out)); clear HK' hk'))
  exact bback_six (by rename_i h0 k0 h1; exact h1) (by rename_i h0 k0 h1; exact h0) HB17.out HK17.out H2.out HR.out HNC.out HN.out HCELL.out HP.out HJ.out HC.out HSL.out HP1.out HJ1.out HC1.out HS1.out HPP.out HPG.out HOP.out HOG.out HEJ.out HEP.out HEC.out HES.out HT8_17.out HT10_17.out HT12_17.out
end Go.Proofs.Ytlcnjdpfijgcdaa
