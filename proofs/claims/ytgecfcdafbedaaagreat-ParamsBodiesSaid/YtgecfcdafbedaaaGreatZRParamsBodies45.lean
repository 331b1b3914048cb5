/- ParamsBodies, regions 11 to 18: puzzles and solutions. (Printed by wip/mkpb.py.). -/
import Derived.Test.YtgecfcdafbedaaaGreatZRParamsBodies43
namespace Go.Proofs.YtgecfcdafbedaaaGreat
open Go.RowKit
set_option linter.unusedSimpArgs false
set_option linter.unusedVariables false

set_option maxRecDepth 100000 in
set_option maxHeartbeats 16000000 in
theorem pb11_fine {w : World} {B : Nat} {CS : List Value} {bv : Value} {Z V Y : List Value} {E F : Int}
    (hz : Whole 29 34 Z) (hv : Whole 29 34 V) (hy : Whole 27 32 Y)
    (h1 : Tells 10 #[bv] w (.tuple #[.agg Z.toArray, .int .i64 E])) (h2 : Tells 11 #[bv] w (.tuple #[.agg Z.toArray, .int .i64 E]))
    (h3 : Tells 12 #[bv] w (.tuple #[.agg V.toArray, .agg Y.toArray, .int .i64 F])) (h4 : Tells 13 #[bv] w (.tuple #[.agg V.toArray, .agg Y.toArray, .int .i64 F]))
    (hnext : Fine w B CS bv pb19) : Fine w B CS bv pb11 := by
  intro K u1 u2 u4 u5 u6 u7 u8 u9 u10 u11 u12 u13 u14 u15 u16 u17 u18 u19 u20 u21 u22 u23 u24 u25 u26 u27 u28 u29 u30 u31 u32 u33 u34 u35 u36 u37 u38 u39 u40 u41 u42 u43 u44 u45 u46 u47 u48 u49 u50 u51 u52 u53 u54 u55 u56 u57 u58 u59 u60 u61 u62 u63 u64 u65 u66 u67 u68 u69 u70 u71 u72 u73 u74 u75 u76 u77 u78 u79 u80 u81 u82 u83 u84 u85 u86 u87 u88 u89 u90 u91 u92 u93 u94 u95 u96 u97 u98 u99 u100 u101 u102 u103 u104 u105 u106 u107 u108 u109 u110 u111 u112 u113 u114 u115 u116 u117 u118 u119 u120 u121 u122 u123 u124 u125 u126 u127 u128 u129 u130 u131 u132 u133 u134 u135 u136 u137 u138 u139 u140 u141 u142 u143 u144 u145 u146 u147 u148 u149 u150 u151 u152 u153 u154 u155 u156 u157 u158 u159 u160 u161 u162 u163 u164 u165 u166 u167 u168 u169 u170 u171 u172 u173 u174 u175 u176 u177 u178 u179 u180 u181 u182 u183 u184 u185 u186 u187 u188 u189 u190 u191 u192 u193 u194 u195 u196 u197 u198 u199 u200 u201 u202 u203 u204 u205 u206 u207 u208 u209 u210 u211 u212 u213 u214 u215 u216 u217 u218 u219 u220 u221 u222 u223 u224 u225 u226 u227 u228 u229 u230 u231 u232 u233 u234 u235 u236 u237 u238 u239 u240 u241 u242 u243 u244 u245 u246 u247 u248 u249 u250 u251 u252 u253 u254 u255 u256 u257 u258 u259 u260 u261 u262 u263 u264 u265 u266 u267 u268 u269 u270 u271 u272 u273 u274 u275 u276 u277 u278 u279 u280 u281 u282 u283 u284 u285 u286 u287 u288 u289 u290 u291 u292 u293 u294 u295 u296 u297 w1 hK hB hk
  obtain ⟨rest, hrest⟩ : ∃ r, r = seqB pb11 := ⟨_, rfl⟩
  rw [← hrest] at hK
  conv at hrest => rhs; whnf
  subst hrest
  conv => arg 2; whnf
  have HB1 := Lib.hid hB
  have HK1 := Lib.hid hk
  clear hB hk
  have HNEXT := Lib.hid hnext
  clear hnext
  have HZL := Lib.hid hz.1
  have HZ1 := Lib.hid hz.2.1
  have HEZ := Lib.hid hz.2.2
  have HSZZ : Hid ((Tryz.prog.info? 29).map (·.size) = some Z.length) := Lib.hid (by rw [hz.1]; exact size_puz)
  clear hz
  have HVL := Lib.hid hv.1
  have HV1 := Lib.hid hv.2.1
  have HEV := Lib.hid hv.2.2
  have HSZV : Hid ((Tryz.prog.info? 29).map (·.size) = some V.length) := Lib.hid (by rw [hv.1]; exact size_puz)
  clear hv
  have HYL := Lib.hid hy.1
  have HY1 := Lib.hid hy.2.1
  have HEY := Lib.hid hy.2.2
  have HSZY : Hid ((Tryz.prog.info? 27).map (·.size) = some Y.length) := Lib.hid (by rw [hy.1]; exact size_sum)
  clear hy
  have HUPUZ := Lib.hid Tryz.underlying29
  have HUSUM := Lib.hid Tryz.underlying27
  have HASUM := Lib.hid alloc_sum
  have HZSUM : Hid (zSum.length = 32) := Lib.hid (by rfl)
  generalize zSum = ZS at HASUM HZSUM
  have HAPUZ := Lib.hid alloc_puz
  have HZPUZ : Hid (zPUZ.length = 34) := Lib.hid (by rfl)
  generalize zPUZ = ZP at HAPUZ HZPUZ
  have H1 := Lib.hid h1
  clear h1
  have H2 := Lib.hid h2
  clear h2
  have H3 := Lib.hid h3
  clear h3
  have H4 := Lib.hid h4
  clear h4
  go_wp2_with fail
  refine (H1.out w1 HB1.out).mono ?_; rintro e w2 ⟨rfl, hB2⟩
  have HB2 := Lib.hid (HB1.out.trans (hB2.mono HB1.out.size))
  have HK2 := Lib.hid (HK1.out.below hB2 HK1.out.lt)
  clear hB2 HK1
  go_upto_region 12 with (first | ((with_reducible refine wpList_is (o := ⟨some 13, .alloc 29, _, _, _, _⟩) ?_); refine wpList_allocT (o := ⟨some 13, .alloc 29, _, _, _, _⟩) rfl 29 ZP (fun W => HAPUZ.out W _ rfl _) ?_; intro w3 HK' HB'; obtain ⟨T13, hN⟩ : ∃ N, w2.heap.size = N := ⟨_, rfl⟩; rw [hN] at HK' ⊢; have HLT13 := Lib.hid (show B < T13 by have := HK2.out.lt; omega); have HT13_3 := HK'; have HK3 := Lib.hid (HK2.out.below HB'.out HK2.out.lt); have HB3 := Lib.hid (HB2.out.trans (HB'.out.mono HB2.out.size)); have HWT13 := Lib.hid (show w.heap.size ≤ T13 by have := HB2.out.size; omega); clear HK' HB' hN) | ((with_reducible refine wpList_is (o := ⟨none, .store 29 (.tmp 13) _, _, _, _, _⟩) ?_); refine wpList_over (o := ⟨none, .store 29 (.tmp 13) _, _, _, _, _⟩) rfl 29 _ _ rfl T13 Z ZP 29 rfl rfl HT13_3.out (by rw [HZL.out, HZPUZ.out]) HSZZ.out HZ1.out ?_; intro w4 HK' hk'; have HT13_4 := HK'; have HK4 := Lib.hid (HK3.out.keep hk'.out (fun h => by have := HLT13.out; omega)); have HB4 := Lib.hid (below_keeps HB3.out hk'.out (Nat.le_refl _) (fun i hi => by rw [hi]; exact HWT13.out)); clear HK' hk'))
  go_wp2_with fail
  refine (H2.out w4 HB4.out).mono ?_; rintro e w5 ⟨rfl, hB5⟩
  have HB5 := Lib.hid (HB4.out.trans (hB5.mono HB4.out.size))
  have HK5 := Lib.hid (HK4.out.below hB5 HK4.out.lt)
  have HT13_5 := Lib.hid (HT13_4.out.below hB5 HT13_4.out.lt)
  clear hB5 HK4 HT13_4
  go_upto_region 13 with (first | ((with_reducible refine wpList_is (o := ⟨some 14, .alloc 29, _, _, _, _⟩) ?_); refine wpList_allocT (o := ⟨some 14, .alloc 29, _, _, _, _⟩) rfl 29 ZP (fun W => HAPUZ.out W _ rfl _) ?_; intro w6 HK' HB'; obtain ⟨T14, hN⟩ : ∃ N, w5.heap.size = N := ⟨_, rfl⟩; rw [hN] at HK' ⊢; have HLT14 := Lib.hid (show B < T14 by have := HK5.out.lt; omega); have HLT13T14 := Lib.hid (show T13 < T14 by have := HT13_5.out.lt; omega); have HT14_6 := HK'; have HK6 := Lib.hid (HK5.out.below HB'.out HK5.out.lt); have HT13_6 := Lib.hid (HT13_5.out.below HB'.out HT13_5.out.lt); have HB6 := Lib.hid (HB5.out.trans (HB'.out.mono HB5.out.size)); have HWT14 := Lib.hid (show w.heap.size ≤ T14 by have := HB5.out.size; omega); clear HK' HB' hN) | ((with_reducible refine wpList_is (o := ⟨none, .store 29 (.tmp 14) _, _, _, _, _⟩) ?_); refine wpList_over (o := ⟨none, .store 29 (.tmp 14) _, _, _, _, _⟩) rfl 29 _ _ rfl T14 Z ZP 29 rfl rfl HT14_6.out (by rw [HZL.out, HZPUZ.out]) HSZZ.out HZ1.out ?_; intro w7 HK' hk'; have HT14_7 := HK'; have HK7 := Lib.hid (HK6.out.keep hk'.out (fun h => by have := HLT14.out; omega)); have HT13_7 := Lib.hid (HT13_6.out.keep hk'.out (fun h => by have := HLT13T14.out; omega)); have HB7 := Lib.hid (below_keeps HB6.out hk'.out (Nat.le_refl _) (fun i hi => by rw [hi]; exact HWT14.out)); clear HK' hk'))
  refine wp_region_lit ?_
  refine wpList_want (o := ⟨some 93, .load 29 _, _, _, _, _⟩) (v := .agg Z.toArray) (w' := _) (by rfl) (exec_loadM rfl T13 0 rfl Z _ HT13_7.out.range HUPUZ.out rfl HSZZ.out) ?_
  (try simp only [Act.put, List.setIfInBounds_toArray, List.set_cons_zero, List.set_cons_succ])
  refine wpList_want (o := ⟨some 94, .load 29 _, _, _, _, _⟩) (v := .agg Z.toArray) (w' := _) (by rfl) (exec_loadM rfl T14 0 rfl Z _ HT14_7.out.range HUPUZ.out rfl HSZZ.out) ?_
  (try simp only [Act.put, List.setIfInBounds_toArray, List.set_cons_zero, List.set_cons_succ])
  refine wpList_want (o := ⟨some 95, _, _, _, _, _⟩) (v := .bool false) (w' := _) (by rfl) (exec_neqS Z.toArray rfl rfl rfl nog_puz (HEZ.out _)) ?_
  (try simp only [Act.put, List.setIfInBounds_toArray, List.set_cons_zero, List.set_cons_succ])
  refine wpList_read (o := ⟨some 96, _, _, _, _, _⟩) (v := ?_) (by rfl) ?_ ?_
  rotate_left
  · go_simp
    all_goals with_reducible rfl
  (try simp only [Act.put, List.setIfInBounds_toArray, List.set_cons_zero, List.set_cons_succ])
  go_upto_region 15 with fail
  go_wp2_with fail
  refine (H3.out w7 HB7.out).mono ?_; rintro e w8 ⟨rfl, hB8⟩
  have HB8 := Lib.hid (HB7.out.trans (hB8.mono HB7.out.size))
  have HK8 := Lib.hid (HK7.out.below hB8 HK7.out.lt)
  have HT13_8 := Lib.hid (HT13_7.out.below hB8 HT13_7.out.lt)
  have HT14_8 := Lib.hid (HT14_7.out.below hB8 HT14_7.out.lt)
  clear hB8 HK7 HT13_7 HT14_7
  go_upto_region 16 with (first | ((with_reducible refine wpList_is (o := ⟨some 15, .alloc 27, _, _, _, _⟩) ?_); refine wpList_allocT (o := ⟨some 15, .alloc 27, _, _, _, _⟩) rfl 27 ZS (fun W => HASUM.out W _ rfl _) ?_; intro w9 HK' HB'; obtain ⟨T15, hN⟩ : ∃ N, w8.heap.size = N := ⟨_, rfl⟩; rw [hN] at HK' ⊢; have HLT15 := Lib.hid (show B < T15 by have := HK8.out.lt; omega); have HLT13T15 := Lib.hid (show T13 < T15 by have := HT13_8.out.lt; omega); have HLT14T15 := Lib.hid (show T14 < T15 by have := HT14_8.out.lt; omega); have HT15_9 := HK'; have HK9 := Lib.hid (HK8.out.below HB'.out HK8.out.lt); have HT13_9 := Lib.hid (HT13_8.out.below HB'.out HT13_8.out.lt); have HT14_9 := Lib.hid (HT14_8.out.below HB'.out HT14_8.out.lt); have HB9 := Lib.hid (HB8.out.trans (HB'.out.mono HB8.out.size)); have HWT15 := Lib.hid (show w.heap.size ≤ T15 by have := HB8.out.size; omega); clear HK' HB' hN) | ((with_reducible refine wpList_is (o := ⟨none, .store 29 (.tmp 13) _, _, _, _, _⟩) ?_); refine wpList_over (o := ⟨none, .store 29 (.tmp 13) _, _, _, _, _⟩) rfl 29 _ _ rfl T13 V Z 29 rfl rfl HT13_9.out (by rw [HVL.out, HZL.out]) HSZV.out HV1.out ?_; intro w10 HK' hk'; have HT13_10 := HK'; have HK10 := Lib.hid (HK9.out.keep hk'.out (fun h => by have := HLT13.out; omega)); have HT14_10 := Lib.hid (HT14_9.out.keep hk'.out (fun h => by have := HLT13T14.out; omega)); have HT15_10 := Lib.hid (HT15_9.out.keep hk'.out (fun h => by have := HLT13T15.out; omega)); have HB10 := Lib.hid (below_keeps HB9.out hk'.out (Nat.le_refl _) (fun i hi => by rw [hi]; exact HWT13.out)); clear HK' hk') | ((with_reducible refine wpList_is (o := ⟨none, .store 27 (.tmp 15) _, _, _, _, _⟩) ?_); refine wpList_over (o := ⟨none, .store 27 (.tmp 15) _, _, _, _, _⟩) rfl 27 _ _ rfl T15 Y ZS 27 rfl rfl HT15_10.out (by rw [HYL.out, HZSUM.out]) HSZY.out HY1.out ?_; intro w11 HK' hk'; have HT15_11 := HK'; have HK11 := Lib.hid (HK10.out.keep hk'.out (fun h => by have := HLT15.out; omega)); have HT13_11 := Lib.hid (HT13_10.out.keep hk'.out (fun h => by have := HLT13T15.out; omega)); have HT14_11 := Lib.hid (HT14_10.out.keep hk'.out (fun h => by have := HLT14T15.out; omega)); have HB11 := Lib.hid (below_keeps HB10.out hk'.out (Nat.le_refl _) (fun i hi => by rw [hi]; exact HWT15.out)); clear HK' hk'))
  go_wp2_with fail
  refine (H4.out w11 HB11.out).mono ?_; rintro e w12 ⟨rfl, hB12⟩
  have HB12 := Lib.hid (HB11.out.trans (hB12.mono HB11.out.size))
  have HK12 := Lib.hid (HK11.out.below hB12 HK11.out.lt)
  have HT13_12 := Lib.hid (HT13_11.out.below hB12 HT13_11.out.lt)
  have HT14_12 := Lib.hid (HT14_11.out.below hB12 HT14_11.out.lt)
  have HT15_12 := Lib.hid (HT15_11.out.below hB12 HT15_11.out.lt)
  clear hB12 HK11 HT13_11 HT14_11 HT15_11
  go_upto_region 17 with (first | ((with_reducible refine wpList_is (o := ⟨some 16, .alloc 27, _, _, _, _⟩) ?_); refine wpList_allocT (o := ⟨some 16, .alloc 27, _, _, _, _⟩) rfl 27 ZS (fun W => HASUM.out W _ rfl _) ?_; intro w13 HK' HB'; obtain ⟨T16, hN⟩ : ∃ N, w12.heap.size = N := ⟨_, rfl⟩; rw [hN] at HK' ⊢; have HLT16 := Lib.hid (show B < T16 by have := HK12.out.lt; omega); have HLT13T16 := Lib.hid (show T13 < T16 by have := HT13_12.out.lt; omega); have HLT14T16 := Lib.hid (show T14 < T16 by have := HT14_12.out.lt; omega); have HLT15T16 := Lib.hid (show T15 < T16 by have := HT15_12.out.lt; omega); have HT16_13 := HK'; have HK13 := Lib.hid (HK12.out.below HB'.out HK12.out.lt); have HT13_13 := Lib.hid (HT13_12.out.below HB'.out HT13_12.out.lt); have HT14_13 := Lib.hid (HT14_12.out.below HB'.out HT14_12.out.lt); have HT15_13 := Lib.hid (HT15_12.out.below HB'.out HT15_12.out.lt); have HB13 := Lib.hid (HB12.out.trans (HB'.out.mono HB12.out.size)); have HWT16 := Lib.hid (show w.heap.size ≤ T16 by have := HB12.out.size; omega); clear HK' HB' hN) | ((with_reducible refine wpList_is (o := ⟨none, .store 29 (.tmp 14) _, _, _, _, _⟩) ?_); refine wpList_over (o := ⟨none, .store 29 (.tmp 14) _, _, _, _, _⟩) rfl 29 _ _ rfl T14 V Z 29 rfl rfl HT14_13.out (by rw [HVL.out, HZL.out]) HSZV.out HV1.out ?_; intro w14 HK' hk'; have HT14_14 := HK'; have HK14 := Lib.hid (HK13.out.keep hk'.out (fun h => by have := HLT14.out; omega)); have HT13_14 := Lib.hid (HT13_13.out.keep hk'.out (fun h => by have := HLT13T14.out; omega)); have HT15_14 := Lib.hid (HT15_13.out.keep hk'.out (fun h => by have := HLT14T15.out; omega)); have HT16_14 := Lib.hid (HT16_13.out.keep hk'.out (fun h => by have := HLT14T16.out; omega)); have HB14 := Lib.hid (below_keeps HB13.out hk'.out (Nat.le_refl _) (fun i hi => by rw [hi]; exact HWT14.out)); clear HK' hk') | ((with_reducible refine wpList_is (o := ⟨none, .store 27 (.tmp 16) _, _, _, _, _⟩) ?_); refine wpList_over (o := ⟨none, .store 27 (.tmp 16) _, _, _, _, _⟩) rfl 27 _ _ rfl T16 Y ZS 27 rfl rfl HT16_14.out (by rw [HYL.out, HZSUM.out]) HSZY.out HY1.out ?_; intro w15 HK' hk'; have HT16_15 := HK'; have HK15 := Lib.hid (HK14.out.keep hk'.out (fun h => by have := HLT16.out; omega)); have HT13_15 := Lib.hid (HT13_14.out.keep hk'.out (fun h => by have := HLT13T16.out; omega)); have HT14_15 := Lib.hid (HT14_14.out.keep hk'.out (fun h => by have := HLT14T16.out; omega)); have HT15_15 := Lib.hid (HT15_14.out.keep hk'.out (fun h => by have := HLT15T16.out; omega)); have HB15 := Lib.hid (below_keeps HB14.out hk'.out (Nat.le_refl _) (fun i hi => by rw [hi]; exact HWT16.out)); clear HK' hk'))
  refine wp_region_lit ?_
  refine wpList_want (o := ⟨some 113, .load 29 _, _, _, _, _⟩) (v := .agg V.toArray) (w' := _) (by rfl) (exec_loadM rfl T13 0 rfl V _ HT13_15.out.range HUPUZ.out rfl HSZV.out) ?_
  (try simp only [Act.put, List.setIfInBounds_toArray, List.set_cons_zero, List.set_cons_succ])
  refine wpList_want (o := ⟨some 114, .load 29 _, _, _, _, _⟩) (v := .agg V.toArray) (w' := _) (by rfl) (exec_loadM rfl T14 0 rfl V _ HT14_15.out.range HUPUZ.out rfl HSZV.out) ?_
  (try simp only [Act.put, List.setIfInBounds_toArray, List.set_cons_zero, List.set_cons_succ])
  refine wpList_want (o := ⟨some 115, _, _, _, _, _⟩) (v := .bool false) (w' := _) (by rfl) (exec_neqS V.toArray rfl rfl rfl nog_puz (HEV.out _)) ?_
  (try simp only [Act.put, List.setIfInBounds_toArray, List.set_cons_zero, List.set_cons_succ])
  refine wpList_read (o := ⟨some 116, _, _, _, _, _⟩) (v := ?_) (by rfl) ?_ ?_
  rotate_left
  · go_simp
    all_goals with_reducible rfl
  (try simp only [Act.put, List.setIfInBounds_toArray, List.set_cons_zero, List.set_cons_succ])
  refine wpList_want (o := ⟨some 117, .load 27 _, _, _, _, _⟩) (v := .agg Y.toArray) (w' := _) (by rfl) (exec_loadM rfl T15 0 rfl Y _ HT15_15.out.range HUSUM.out rfl HSZY.out) ?_
  (try simp only [Act.put, List.setIfInBounds_toArray, List.set_cons_zero, List.set_cons_succ])
  refine wpList_want (o := ⟨some 118, .load 27 _, _, _, _, _⟩) (v := .agg Y.toArray) (w' := _) (by rfl) (exec_loadM rfl T16 0 rfl Y _ HT16_15.out.range HUSUM.out rfl HSZY.out) ?_
  (try simp only [Act.put, List.setIfInBounds_toArray, List.set_cons_zero, List.set_cons_succ])
  refine wpList_want (o := ⟨some 119, _, _, _, _, _⟩) (v := .bool false) (w' := _) (by rfl) (exec_neqS Y.toArray rfl rfl rfl nog_sum (HEY.out _)) ?_
  (try simp only [Act.put, List.setIfInBounds_toArray, List.set_cons_zero, List.set_cons_succ])
  refine wpList_read (o := ⟨some 120, _, _, _, _, _⟩) (v := ?_) (by rfl) ?_ ?_
  rotate_left
  · go_simp
    all_goals with_reducible rfl
  (try simp only [Act.put, List.setIfInBounds_toArray, List.set_cons_zero, List.set_cons_succ])
  go_upto_region 19 with fail
  exact HNEXT.out _ _ _ _ _ _ _ _ _ _ _ _ _ _ _ _ _ _ _ _ _ _ _ _ _ _ _ _ _ _ _ _ _ _ _ _ _ _ _ _ _ _ _ _ _ _ _ _ _ _ _ _ _ _ _ _ _ _ _ _ _ _ _ _ _ _ _ _ _ _ _ _ _ _ _ _ _ _ _ _ _ _ _ _ _ _ _ _ _ _ _ _ _ _ _ _ _ _ _ _ _ _ _ _ _ _ _ _ _ _ _ _ _ _ _ _ _ _ _ _ _ _ _ _ _ _ _ _ _ _ _ _ _ _ _ _ _ _ _ _ _ _ _ _ _ _ _ _ _ _ _ _ _ _ _ _ _ _ _ _ _ _ _ _ _ _ _ _ _ _ _ _ _ _ _ _ _ _ _ _ _ _ _ _ _ _ _ _ _ _ _ _ _ _ _ _ _ _ _ _ _ _ _ _ _ _ _ _ _ _ _ _ _ _ _ _ _ _ _ _ _ _ _ _ _ _ _ _ _ _ _ _ _ _ _ _ _ _ _ _ _ _ _ _ _ _ _ _ _ _ _ _ _ _ _ _ _ _ _ _ _ _ _ _ _ _ _ _ _ _ _ _ _ _ _ _ _ _ _ _ _ _ _ _ _ _ _ _ _ _ _ _ _ _ _ _ _ _ (by rename_i hK'; exact hK') HB15.out HK15.out
end Go.Proofs.YtgecfcdafbedaaaGreat
