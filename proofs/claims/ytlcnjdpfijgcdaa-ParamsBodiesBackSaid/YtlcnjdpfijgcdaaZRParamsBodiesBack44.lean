/- The middle of the law ParamsBodiesBack: its puzzles. (Printed by wip/mkbb.py.). -/
import Derived.Test.YtlcnjdpfijgcdaaZRParamsBodiesBack43
namespace Go.Proofs.Ytlcnjdpfijgcdaa
open Go.RowKit
set_option linter.unusedSimpArgs false
set_option linter.unusedVariables false

noncomputable def bodMid : Code := (Try.f3.body.bind (atRegion 8)).getD .skip
set_option maxRecDepth 100000 in
set_option maxHeartbeats 16000000 in
theorem bback_mid {K : Act → World → Prop} {u0 u2 u3 u4 u5 u6 u7 u8 u9 u10 u11 u12 u13 u14 u15 u16 u17 u18 u19 u20 u21 u22 u23 u24 u25 u26 u27 u28 u29 u30 u31 u32 u33 u34 u35 u36 u37 u38 u39 u40 u41 u42 u43 u44 u45 u46 u47 u48 u49 u50 u51 u52 u53 u54 u55 u56 u57 u58 u59 u60 u61 u62 u63 u64 u65 u66 u67 u68 u69 u70 u71 u72 u73 u74 u75 u76 u77 u78 u79 u80 u81 u82 u83 u84 u85 u86 u87 u88 u89 u90 u91 u92 u93 u94 u95 u96 u97 u98 u99 u100 u101 u102 u103 u104 u105 u106 u107 u108 u109 u110 u111 u112 u113 u114 u115 u116 u117 u118 u119 u120 u121 u122 u123 u124 u125 u126 u127 u128 u129 u130 u131 u132 u133 u134 u135 u136 u137 u138 u139 u140 u141 u142 u143 u144 u145 u146 u147 u148 u149 u150 u151 u152 u153 u154 u155 u156 u157 u158 u159 u160 u161 u162 u163 u164 u165 u166 u167 u168 u169 u170 u171 u172 u173 u174 u175 u176 u177 u178 u179 u180 u181 u182 u183 u184 u185 u186 u187 u188 u189 u190 u191 u192 u193 u194 u195 u196 u197 u198 u199 u200 u201 u202 u203 u204 u205 u206 u207 u208 u209 u210 : Value} {w w1 : World} {B n c : Nat} {A : Option Addr} {xs : List Int} {CS P J C S : List Value} {x y u : Int} {pb sb : List Int} 
    (hK : ∀ a W, Code.wp Try.prog (seqB bodMid) (bodyPost Try.prog Try.f3 fun e w' => e = .returned (.bool true) ∧ Below w.heap.size w w') a W → K a W)
    (hB : Below w.heap.size w w1) (hk : Blk w1 B 34 CS) (h2 : CS[2]? = some (.slice A n c)) (hr : Rd w .u32 A n xs) (hnc : n ≤ c) (hn : n ≤ 35184372087808)
    (hcell : ∀ W, Blk W B 34 CS → W.cell? ⟨B, 0, none⟩ = some (.int .u32 x) ∧ W.cell? ⟨B, 1, none⟩ = some (.int .u32 y) ∧ W.cell? ⟨B, 2, none⟩ = some (.slice A n c) ∧ W.cell? ⟨B, 3, none⟩ = some (.int .u8 u) ∧ W.rangeAt B 3 P ∧ W.rangeAt B 37 J ∧ W.rangeAt B 69 S ∧ W.rangeAt B 69 C) (hP : P.length = 34) (hJ : J.length = 32) (hC : C.length = 4) (hS : S.length = 8) (hP1 : ∀ v ∈ P, v.oneCell' = true) (hJ1 : ∀ v ∈ J, v.oneCell' = true) (hC1 : ∀ v ∈ C, v.oneCell' = true) (hS1 : ∀ v ∈ S, v.oneCell' = true) (hpp : ∀ W, Calls Try.prog 16 #[.agg P.toArray] W (NewRd W 41 pb)) (hpg : ∀ g cc W, Rd W .u8 (some ⟨g, 0, none⟩) 41 pb → 41 ≤ cc → Calls Try.prog 15 #[.slice (some ⟨g, 0, none⟩) 41 cc] W fun e w' => ∃ Z E, e = .returned (.tuple #[.agg Z.toArray, .int .i64 E]) ∧ PuzT u P Z E ∧ Below W.heap.size W w') (hop : ∀ W, Calls Try.prog 18 #[.agg P.toArray, .agg J.toArray] W (NewRd W 73 sb)) (hog : ∀ g cc W, Rd W .u8 (some ⟨g, 0, none⟩) 73 sb → 73 ≤ cc → Calls Try.prog 17 #[.slice (some ⟨g, 0, none⟩) 73 cc] W fun e w' => ∃ Z Y E, e = .returned (.tuple #[.agg Z.toArray, .agg Y.toArray, .int .i64 E]) ∧ SolT u P J Z Y E ∧ Below W.heap.size W w') (hej : ∀ W, Sem.run Try.prog (Op.equalIn 10000 26 (.agg J.toArray) (.agg J.toArray)) W = .ok true W) (hep : ∀ W, Sem.run Try.prog (Op.equalIn 10000 28 (.agg P.toArray) (.agg P.toArray)) W = .ok true W) :
    Code.wp Try.prog (seqA bodMid) (Exit.then K (bodyPost Try.prog Try.f3 fun e w' => e = .returned (.bool true) ∧ Below w.heap.size w w')) ⟨#[u0, .pointer (some ⟨B, 0, none⟩), u2, u3, u4, u5, u6, u7, u8, u9, u10, u11, u12, u13, u14, u15, u16, u17, u18, u19, u20, u21, u22, u23, u24, u25, u26, u27, u28, u29, u30, u31, u32, u33, u34, u35, u36, u37, u38, u39, u40, u41, u42, u43, u44, u45, u46, u47, u48, u49, u50, u51, u52, u53, u54, u55, u56, u57, u58, u59, u60, u61, u62, u63, u64, u65, u66, u67, u68, u69, u70, u71, u72, u73, u74, u75, u76, u77, u78, u79, u80, u81, u82, u83, u84, u85, u86, u87, u88, u89, u90, u91, u92, u93, u94, u95, u96, u97, u98, u99, u100, u101, u102, u103, u104, u105, u106, u107, u108, u109, u110, u111, u112, u113, u114, u115, u116, u117, u118, u119, u120, u121, u122, u123, u124, u125, u126, u127, u128, u129, u130, u131, u132, u133, u134, u135, u136, u137, u138, u139, u140, u141, u142, u143, u144, u145, u146, u147, u148, u149, u150, u151, u152, u153, u154, u155, u156, u157, u158, u159, u160, u161, u162, u163, u164, u165, u166, u167, u168, u169, u170, u171, u172, u173, u174, u175, u176, u177, u178, u179, u180, u181, u182, u183, u184, u185, u186, u187, u188, u189, u190, u191, u192, u193, u194, u195, u196, u197, u198, u199, u200, u201, u202, u203, u204, u205, u206, u207, u208, u209, u210], []⟩ w1 := by
  obtain ⟨rest, hrest⟩ : ∃ r, r = seqB bodMid := ⟨_, rfl⟩
  rw [← hrest] at hK
  conv at hrest => rhs; whnf
  subst hrest
  conv => arg 2; whnf
  have HSZC : Hid ((Try.prog.info? 30).map (·.size) = some C.length) := Lib.hid (by rw [hC]; exact size_num)
  have HSZJ : Hid ((Try.prog.info? 26).map (·.size) = some J.length) := Lib.hid (by rw [hJ]; exact size_sum)
  have HSZS : Hid ((Try.prog.info? 32).map (·.size) = some S.length) := Lib.hid (by rw [hS]; exact size_sig)
  have HSZP : Hid ((Try.prog.info? 28).map (·.size) = some P.length) := Lib.hid (by rw [hP]; exact size_puz)
  have HUNUM := Lib.hid Try.underlying30
  have HUSUM := Lib.hid Try.underlying26
  have HUSIG := Lib.hid Try.underlying32
  have HUPUZ := Lib.hid Try.underlying28
  have HP := Lib.hid hP
  have HJ := Lib.hid hJ
  have HC := Lib.hid hC
  have HSL := Lib.hid hS
  clear hP hJ hC hS
  have HANUM := Lib.hid alloc_num
  have HZNUM : Hid (zNUM.length = 4) := Lib.hid rfl
  have HASUM := Lib.hid alloc_sum
  have HZSUM : Hid (zSum.length = 32) := Lib.hid (by rfl)
  have HASIG := Lib.hid alloc_sig
  have HZSIG : Hid (zSIG.length = 8) := Lib.hid rfl
  have HAPUZ := Lib.hid alloc_puz
  have HZPUZ : Hid (zPUZ.length = 34) := Lib.hid (by rfl)
  generalize zNUM = ZN at HANUM HZNUM
  generalize zSum = ZS at HASUM HZSUM
  generalize zSIG = ZG at HASIG HZSIG
  generalize zPUZ = ZP at HAPUZ HZPUZ
  have HB1 := Lib.hid hB
  have HK1 := Lib.hid hk
  have HCELL := Lib.hid hcell
  have HPP := Lib.hid hpp
  have HPG := Lib.hid hpg
  have HOP := Lib.hid hop
  have HOG := Lib.hid hog
  have HEJ := Lib.hid hej
  have HEP := Lib.hid hep
  have HR := Lib.hid hr
  have HN := Lib.hid hn
  have H2 := Lib.hid h2
  have HNC := Lib.hid hnc
  have HP1 := Lib.hid hP1
  have HJ1 := Lib.hid hJ1
  have HC1 := Lib.hid hC1
  have HS1 := Lib.hid hS1
  clear hB hk hcell hpp hpg hop hog hej hep hr hn h2 hnc hP1 hJ1 hC1 hS1
  obtain ⟨-, -, -, -, kp, -⟩ := HCELL.out w1 HK1.out
  refine wp_region_lit ?_
  refine wpList_read (o := ⟨some 120, _, _, _, _, _⟩) (v := ?_) (by rfl) ?_ ?_
  rotate_left
  · go_simp
    all_goals with_reducible rfl
  (try simp only [Act.put, List.setIfInBounds_toArray, List.set_cons_zero, List.set_cons_succ])
  refine wpList_want (o := ⟨some 121, .load 28 _, _, _, _, _⟩) (v := .agg P.toArray) (w' := _) (by rfl) (exec_loadM rfl B 3 rfl P _ kp HUPUZ.out rfl HSZP.out) ?_
  (try simp only [Act.put, List.setIfInBounds_toArray, List.set_cons_zero, List.set_cons_succ])
  clear kp
  go_wp2_with fail
  refine (HPP.out w1).mono ?_; rintro e w2 ⟨g2, c2, rfl, l2, r2, hB2⟩
  have R2 := Lib.hid r2
  clear r2
  have HB2 := Lib.hid (HB1.out.trans (hB2.mono HB1.out.size))
  have HK2 := Lib.hid (HK1.out.below hB2 HK1.out.lt)
  clear hB2 HK1
  go_wp2_with fail
  refine (HPG.out g2 c2 w2 R2.out l2).mono ?_; rintro e w3 ⟨Z1, E1, rfl, hz1, hB3⟩
  clear R2
  have HB3 := Lib.hid (HB2.out.trans (hB3.mono HB2.out.size))
  have HK3 := Lib.hid (HK2.out.below hB3 HK2.out.lt)
  clear hB3 HK2
  have HZ1L := Lib.hid hz1.1
  have HZ11 := Lib.hid hz1.2.1
  have HZ1E := Lib.hid hz1.2.2
  have HSZZ1 : Hid ((Try.prog.info? 28).map (·.size) = some Z1.length) := Lib.hid (by rw [hz1.1]; exact size_puz)
  clear hz1
  go_upto_region 9 with (first | ((with_reducible refine wpList_is (o := ⟨some 14, .alloc 28, _, _, _, _⟩) ?_); refine wpList_allocT (o := ⟨some 14, .alloc 28, _, _, _, _⟩) rfl 28 ZP (fun W => HAPUZ.out W _ rfl _) ?_; intro w4 HK' HB'; obtain ⟨T14, hN⟩ : ∃ N, w3.heap.size = N := ⟨_, rfl⟩; rw [hN] at HK' ⊢; have HLT14 := Lib.hid (show B < T14 by have := HK3.out.lt; omega); have HT14_4 := HK'; have HK4 := Lib.hid (HK3.out.below HB'.out HK3.out.lt); have HB4 := Lib.hid (HB3.out.trans (HB'.out.mono HB3.out.size)); have HWT14 := Lib.hid (show w.heap.size ≤ T14 by have := HB3.out.size; omega); clear HK' HB' hN) | ((with_reducible refine wpList_is (o := ⟨none, .store 28 (.tmp 14) _, _, _, _, _⟩) ?_); refine wpList_over (o := ⟨none, .store 28 (.tmp 14) _, _, _, _, _⟩) rfl 28 _ _ rfl T14 Z1 ZP 28 rfl rfl HT14_4.out (by rw [HZ1L.out, HZPUZ.out]) HSZZ1.out HZ11.out ?_; intro w5 HK' hk'; have HT14_5 := HK'; have HK5 := Lib.hid (HK4.out.keep hk'.out (fun h => by have := HLT14.out; omega)); have HB5 := Lib.hid (below_keeps HB4.out hk'.out (Nat.le_refl _) (fun i hi => by rw [hi]; exact HWT14.out)); clear HK' hk'))
  refine wp_region_lit ?_
  obtain ⟨-, -, -, -, kp, kj, -⟩ := HCELL.out w5 HK5.out
  refine wpList_read (o := ⟨some 127, _, _, _, _, _⟩) (v := ?_) (by rfl) ?_ ?_
  rotate_left
  · go_simp
    all_goals with_reducible rfl
  (try simp only [Act.put, List.setIfInBounds_toArray, List.set_cons_zero, List.set_cons_succ])
  refine wpList_want (o := ⟨some 128, .load 28 _, _, _, _, _⟩) (v := .agg P.toArray) (w' := _) (by rfl) (exec_loadM rfl B 3 rfl P _ kp HUPUZ.out rfl HSZP.out) ?_
  (try simp only [Act.put, List.setIfInBounds_toArray, List.set_cons_zero, List.set_cons_succ])
  refine wpList_read (o := ⟨some 129, _, _, _, _, _⟩) (v := ?_) (by rfl) ?_ ?_
  rotate_left
  · go_simp
    all_goals with_reducible rfl
  (try simp only [Act.put, List.setIfInBounds_toArray, List.set_cons_zero, List.set_cons_succ])
  refine wpList_want (o := ⟨some 130, .load 26 _, _, _, _, _⟩) (v := .agg J.toArray) (w' := _) (by rfl) (exec_loadM rfl B 37 rfl J _ kj HUSUM.out rfl HSZJ.out) ?_
  (try simp only [Act.put, List.setIfInBounds_toArray, List.set_cons_zero, List.set_cons_succ])
  clear kp kj
  go_wp2_with fail
  refine (HOP.out w5).mono ?_; rintro e w6 ⟨g6, c6, rfl, l6, r6, hB6⟩
  have R6 := Lib.hid r6
  clear r6
  have HB6 := Lib.hid (HB5.out.trans (hB6.mono HB5.out.size))
  have HK6 := Lib.hid (HK5.out.below hB6 HK5.out.lt)
  have HT14_6 := Lib.hid (HT14_5.out.below hB6 HT14_5.out.lt)
  clear hB6 HK5 HT14_5
  go_wp2_with fail
  refine (HOG.out g6 c6 w6 R6.out l6).mono ?_; rintro e w7 ⟨Z2, Y2, E2, rfl, hz2, hB7⟩
  clear R6
  have HB7 := Lib.hid (HB6.out.trans (hB7.mono HB6.out.size))
  have HK7 := Lib.hid (HK6.out.below hB7 HK6.out.lt)
  have HT14_7 := Lib.hid (HT14_6.out.below hB7 HT14_6.out.lt)
  clear hB7 HK6 HT14_6
  have HZ2L := Lib.hid hz2.1
  have HZ21 := Lib.hid hz2.2.1
  have HY2L := Lib.hid hz2.2.2.1
  have HY21 := Lib.hid hz2.2.2.2.1
  have HZ2E := Lib.hid hz2.2.2.2.2
  have HSZZ2 : Hid ((Try.prog.info? 28).map (·.size) = some Z2.length) := Lib.hid (by rw [hz2.1]; exact size_puz)
  have HSZY2 : Hid ((Try.prog.info? 26).map (·.size) = some Y2.length) := Lib.hid (by rw [hz2.2.2.1]; exact size_sum)
  clear hz2
  go_upto_region 10 with (first | ((with_reducible refine wpList_is (o := ⟨some 16, .alloc 28, _, _, _, _⟩) ?_); refine wpList_allocT (o := ⟨some 16, .alloc 28, _, _, _, _⟩) rfl 28 ZP (fun W => HAPUZ.out W _ rfl _) ?_; intro w8 HK' HB'; obtain ⟨T16, hN⟩ : ∃ N, w7.heap.size = N := ⟨_, rfl⟩; rw [hN] at HK' ⊢; have HLT16 := Lib.hid (show B < T16 by have := HK7.out.lt; omega); have HLT14T16 := Lib.hid (show T14 < T16 by have := HT14_7.out.lt; omega); have HT16_8 := HK'; have HK8 := Lib.hid (HK7.out.below HB'.out HK7.out.lt); have HT14_8 := Lib.hid (HT14_7.out.below HB'.out HT14_7.out.lt); have HB8 := Lib.hid (HB7.out.trans (HB'.out.mono HB7.out.size)); have HWT16 := Lib.hid (show w.heap.size ≤ T16 by have := HB7.out.size; omega); clear HK' HB' hN) | ((with_reducible refine wpList_is (o := ⟨some 17, .alloc 26, _, _, _, _⟩) ?_); refine wpList_allocT (o := ⟨some 17, .alloc 26, _, _, _, _⟩) rfl 26 ZS (fun W => HASUM.out W _ rfl _) ?_; intro w9 HK' HB'; obtain ⟨T17, hN⟩ : ∃ N, w8.heap.size = N := ⟨_, rfl⟩; rw [hN] at HK' ⊢; have HLT17 := Lib.hid (show B < T17 by have := HK8.out.lt; omega); have HLT14T17 := Lib.hid (show T14 < T17 by have := HT14_8.out.lt; omega); have HLT16T17 := Lib.hid (show T16 < T17 by have := HT16_8.out.lt; omega); have HT17_9 := HK'; have HK9 := Lib.hid (HK8.out.below HB'.out HK8.out.lt); have HT14_9 := Lib.hid (HT14_8.out.below HB'.out HT14_8.out.lt); have HT16_9 := Lib.hid (HT16_8.out.below HB'.out HT16_8.out.lt); have HB9 := Lib.hid (HB8.out.trans (HB'.out.mono HB8.out.size)); have HWT17 := Lib.hid (show w.heap.size ≤ T17 by have := HB8.out.size; omega); clear HK' HB' hN) | ((with_reducible refine wpList_is (o := ⟨none, .store 28 (.tmp 16) _, _, _, _, _⟩) ?_); refine wpList_over (o := ⟨none, .store 28 (.tmp 16) _, _, _, _, _⟩) rfl 28 _ _ rfl T16 Z2 ZP 28 rfl rfl HT16_9.out (by rw [HZ2L.out, HZPUZ.out]) HSZZ2.out HZ21.out ?_; intro w10 HK' hk'; have HT16_10 := HK'; have HK10 := Lib.hid (HK9.out.keep hk'.out (fun h => by have := HLT16.out; omega)); have HT14_10 := Lib.hid (HT14_9.out.keep hk'.out (fun h => by have := HLT14T16.out; omega)); have HT17_10 := Lib.hid (HT17_9.out.keep hk'.out (fun h => by have := HLT16T17.out; omega)); have HB10 := Lib.hid (below_keeps HB9.out hk'.out (Nat.le_refl _) (fun i hi => by rw [hi]; exact HWT16.out)); clear HK' hk') | ((with_reducible refine wpList_is (o := ⟨none, .store 26 (.tmp 17) _, _, _, _, _⟩) ?_); refine wpList_over (o := ⟨none, .store 26 (.tmp 17) _, _, _, _, _⟩) rfl 26 _ _ rfl T17 Y2 ZS 26 rfl rfl HT17_10.out (by rw [HY2L.out, HZSUM.out]) HSZY2.out HY21.out ?_; intro w11 HK' hk'; have HT17_11 := HK'; have HK11 := Lib.hid (HK10.out.keep hk'.out (fun h => by have := HLT17.out; omega)); have HT14_11 := Lib.hid (HT14_10.out.keep hk'.out (fun h => by have := HLT14T17.out; omega)); have HT16_11 := Lib.hid (HT16_10.out.keep hk'.out (fun h => by have := HLT16T17.out; omega)); have HB11 := Lib.hid (below_keeps HB10.out hk'.out (Nat.le_refl _) (fun i hi => by rw [hi]; exact HWT17.out)); clear HK' hk'))
  obtain ⟨-, -, -, k3, kp, kj, -⟩ := HCELL.out w11 HK11.out
  by_cases hu : u ≤ 12
  · have h1 : Z1 = P ∧ E1 = 0 := by
      rcases HZ1E.out with ⟨_, h, h'⟩ | ⟨h, _⟩
      · exact ⟨h, h'⟩
      · omega
    have h2 : Z2 = P ∧ Y2 = J ∧ E2 = 0 := by
      rcases HZ2E.out with ⟨_, h, h', h''⟩ | ⟨h, _⟩
      · exact ⟨h, h', h''⟩
      · omega
    obtain ⟨rfl, rfl⟩ := h1
    obtain ⟨rfl, rfl, rfl⟩ := h2
    go_upto_region 11 with fail
    refine wp_region_lit ?_
    refine wpList_read (o := ⟨some 140, _, _, _, _, _⟩) (v := ?_) (by rfl) ?_ ?_
    rotate_left
    · go_simp
      all_goals with_reducible rfl
    (try simp only [Act.put, List.setIfInBounds_toArray, List.set_cons_zero, List.set_cons_succ])
    refine wpList_read (o := ⟨some 141, _, _, _, _, _⟩) (v := ?_) (by rfl) ?_ ?_
    rotate_left
    · go_simp
      all_goals with_reducible rfl
    (try simp only [Act.put, List.setIfInBounds_toArray, List.set_cons_zero, List.set_cons_succ])
    refine wpList_read (o := ⟨some 142, _, _, _, _, _⟩) (v := ?_) (by rfl) ?_ ?_
    rotate_left
    · go_simp
      all_goals with_reducible rfl
    (try simp only [Act.put, List.setIfInBounds_toArray, List.set_cons_zero, List.set_cons_succ])
    refine wpList_want (o := ⟨some 143, .load 28 _, _, _, _, _⟩) (v := .agg Z2.toArray) (w' := _) (by rfl) (exec_loadM rfl T14 0 rfl Z2 _ HT14_11.out.range HUPUZ.out rfl HSZZ2.out) ?_
    (try simp only [Act.put, List.setIfInBounds_toArray, List.set_cons_zero, List.set_cons_succ])
    refine wpList_read (o := ⟨some 144, _, _, _, _, _⟩) (v := ?_) (by rfl) ?_ ?_
    rotate_left
    · go_simp
      all_goals with_reducible rfl
    (try simp only [Act.put, List.setIfInBounds_toArray, List.set_cons_zero, List.set_cons_succ])
    refine wpList_want (o := ⟨some 145, .load 28 _, _, _, _, _⟩) (v := .agg Z2.toArray) (w' := _) (by rfl) (exec_loadM rfl B 3 rfl Z2 _ kp HUPUZ.out rfl HSZZ2.out) ?_
    (try simp only [Act.put, List.setIfInBounds_toArray, List.set_cons_zero, List.set_cons_succ])
    refine wpList_want (o := ⟨some 146, _, _, _, _, _⟩) (v := .bool false) (w' := _) (by rfl) (exec_neqS Z2.toArray rfl rfl rfl nog_puz (HEP.out _)) ?_
    (try simp only [Act.put, List.setIfInBounds_toArray, List.set_cons_zero, List.set_cons_succ])
    refine wpList_read (o := ⟨some 147, _, _, _, _, _⟩) (v := ?_) (by rfl) ?_ ?_
    rotate_left
    · go_simp
      all_goals with_reducible rfl
    (try simp only [Act.put, List.setIfInBounds_toArray, List.set_cons_zero, List.set_cons_succ])
    refine wpList_read (o := ⟨some 148, _, _, _, _, _⟩) (v := ?_) (by rfl) ?_ ?_
    rotate_left
    · go_simp
      all_goals with_reducible rfl
    (try simp only [Act.put, List.setIfInBounds_toArray, List.set_cons_zero, List.set_cons_succ])
    refine wpList_read (o := ⟨some 149, _, _, _, _, _⟩) (v := ?_) (by rfl) ?_ ?_
    rotate_left
    · go_simp
      all_goals with_reducible rfl
    (try simp only [Act.put, List.setIfInBounds_toArray, List.set_cons_zero, List.set_cons_succ])
    refine wpList_read (o := ⟨some 150, _, _, _, _, _⟩) (v := ?_) (by rfl) ?_ ?_
    rotate_left
    · go_simp
      all_goals with_reducible rfl
    (try simp only [Act.put, List.setIfInBounds_toArray, List.set_cons_zero, List.set_cons_succ])
    refine wpList_read (o := ⟨some 151, _, _, _, _, _⟩) (v := ?_) (by rfl) ?_ ?_
    rotate_left
    · go_simp
      all_goals with_reducible rfl
    (try simp only [Act.put, List.setIfInBounds_toArray, List.set_cons_zero, List.set_cons_succ])
    refine wpList_read (o := ⟨some 152, _, _, _, _, _⟩) (v := ?_) (by rfl) ?_ ?_
    rotate_left
    · go_simp
      all_goals with_reducible rfl
    (try simp only [Act.put, List.setIfInBounds_toArray, List.set_cons_zero, List.set_cons_succ])
    refine wpList_want (o := ⟨some 153, .load 28 _, _, _, _, _⟩) (v := .agg Z2.toArray) (w' := _) (by rfl) (exec_loadM rfl T16 0 rfl Z2 _ HT16_11.out.range HUPUZ.out rfl HSZZ2.out) ?_
    (try simp only [Act.put, List.setIfInBounds_toArray, List.set_cons_zero, List.set_cons_succ])
    refine wpList_read (o := ⟨some 154, _, _, _, _, _⟩) (v := ?_) (by rfl) ?_ ?_
    rotate_left
    · go_simp
      all_goals with_reducible rfl
    (try simp only [Act.put, List.setIfInBounds_toArray, List.set_cons_zero, List.set_cons_succ])
    refine wpList_want (o := ⟨some 155, .load 28 _, _, _, _, _⟩) (v := .agg Z2.toArray) (w' := _) (by rfl) (exec_loadM rfl B 3 rfl Z2 _ kp HUPUZ.out rfl HSZZ2.out) ?_
    (try simp only [Act.put, List.setIfInBounds_toArray, List.set_cons_zero, List.set_cons_succ])
    refine wpList_want (o := ⟨some 156, _, _, _, _, _⟩) (v := .bool false) (w' := _) (by rfl) (exec_neqS Z2.toArray rfl rfl rfl nog_puz (HEP.out _)) ?_
    (try simp only [Act.put, List.setIfInBounds_toArray, List.set_cons_zero, List.set_cons_succ])
    refine wpList_read (o := ⟨some 157, _, _, _, _, _⟩) (v := ?_) (by rfl) ?_ ?_
    rotate_left
    · go_simp
      all_goals with_reducible rfl
    (try simp only [Act.put, List.setIfInBounds_toArray, List.set_cons_zero, List.set_cons_succ])
    refine wpList_read (o := ⟨some 158, _, _, _, _, _⟩) (v := ?_) (by rfl) ?_ ?_
    rotate_left
    · go_simp
      all_goals with_reducible rfl
    (try simp only [Act.put, List.setIfInBounds_toArray, List.set_cons_zero, List.set_cons_succ])
    refine wpList_want (o := ⟨some 159, .load 26 _, _, _, _, _⟩) (v := .agg Y2.toArray) (w' := _) (by rfl) (exec_loadM rfl T17 0 rfl Y2 _ HT17_11.out.range HUSUM.out rfl HSZY2.out) ?_
    (try simp only [Act.put, List.setIfInBounds_toArray, List.set_cons_zero, List.set_cons_succ])
    refine wpList_read (o := ⟨some 160, _, _, _, _, _⟩) (v := ?_) (by rfl) ?_ ?_
    rotate_left
    · go_simp
      all_goals with_reducible rfl
    (try simp only [Act.put, List.setIfInBounds_toArray, List.set_cons_zero, List.set_cons_succ])
    refine wpList_want (o := ⟨some 161, .load 26 _, _, _, _, _⟩) (v := .agg Y2.toArray) (w' := _) (by rfl) (exec_loadM rfl B 37 rfl Y2 _ kj HUSUM.out rfl HSZY2.out) ?_
    (try simp only [Act.put, List.setIfInBounds_toArray, List.set_cons_zero, List.set_cons_succ])
    refine wpList_want (o := ⟨some 162, _, _, _, _, _⟩) (v := .bool false) (w' := _) (by rfl) (exec_neqS Y2.toArray rfl rfl rfl nog_sum (HEJ.out _)) ?_
    (try simp only [Act.put, List.setIfInBounds_toArray, List.set_cons_zero, List.set_cons_succ])
    refine wpList_read (o := ⟨some 163, _, _, _, _, _⟩) (v := ?_) (by rfl) ?_ ?_
    rotate_left
    · go_simp
      all_goals with_reducible rfl
    (try simp only [Act.put, List.setIfInBounds_toArray, List.set_cons_zero, List.set_cons_succ])
    clear kp kj k3
    go_upto_region 15 with fail
    exact bback_tail (by rename_i hK'; exact hK') HB11.out HK11.out H2.out HR.out HNC.out HN.out
  · have h1 : E1 = 4 := by
      rcases HZ1E.out with ⟨h, _⟩ | ⟨_, h⟩
      · omega
      · exact h
    have h2 : E2 = 4 := by
      rcases HZ2E.out with ⟨h, _⟩ | ⟨_, h⟩
      · omega
      · exact h
    subst h1 h2
    have hu' : 12 < u := by omega
    go_upto_region 15 with fail
    exact bback_tail (by rename_i hK'; exact hK') HB11.out HK11.out H2.out HR.out HNC.out HN.out
end Go.Proofs.Ytlcnjdpfijgcdaa
