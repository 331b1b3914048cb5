/- ParamsBodies, regions 19 to 24: counts and numbers. (Printed by wip/mkpb.py.); ParamsBodies, regions 25 to 30: sums and signatures. (Printed by wip/mkpb.py.). -/
import Derived.Test.YtgecfcdafbedaaaGreatZRParamsBodies43
namespace Go.Proofs.YtgecfcdafbedaaaGreat
open Go.RowKit
set_option linter.unusedSimpArgs false
set_option linter.unusedVariables false

set_option maxRecDepth 100000 in
set_option maxHeartbeats 16000000 in
theorem pb19_fine {w : World} {B : Nat} {CS : List Value} {bv : Value} {Z : List Value} {X E F : Int}
    (hz : Whole 31 4 Z)
    (h1 : Tells 14 #[bv] w (.tuple #[.int .u32 X, .int .i64 E])) (h2 : Tells 15 #[bv] w (.tuple #[.int .u32 X, .int .i64 E]))
    (h3 : Tells 16 #[bv] w (.tuple #[.agg Z.toArray, .int .i64 F])) (h4 : Tells 17 #[bv] w (.tuple #[.agg Z.toArray, .int .i64 F]))
    (hnext : Fine w B CS bv pb25) : Fine w B CS bv pb19 := by
  intro K u1 u2 u4 u5 u6 u7 u8 u9 u10 u11 u12 u13 u14 u15 u16 u17 u18 u19 u20 u21 u22 u23 u24 u25 u26 u27 u28 u29 u30 u31 u32 u33 u34 u35 u36 u37 u38 u39 u40 u41 u42 u43 u44 u45 u46 u47 u48 u49 u50 u51 u52 u53 u54 u55 u56 u57 u58 u59 u60 u61 u62 u63 u64 u65 u66 u67 u68 u69 u70 u71 u72 u73 u74 u75 u76 u77 u78 u79 u80 u81 u82 u83 u84 u85 u86 u87 u88 u89 u90 u91 u92 u93 u94 u95 u96 u97 u98 u99 u100 u101 u102 u103 u104 u105 u106 u107 u108 u109 u110 u111 u112 u113 u114 u115 u116 u117 u118 u119 u120 u121 u122 u123 u124 u125 u126 u127 u128 u129 u130 u131 u132 u133 u134 u135 u136 u137 u138 u139 u140 u141 u142 u143 u144 u145 u146 u147 u148 u149 u150 u151 u152 u153 u154 u155 u156 u157 u158 u159 u160 u161 u162 u163 u164 u165 u166 u167 u168 u169 u170 u171 u172 u173 u174 u175 u176 u177 u178 u179 u180 u181 u182 u183 u184 u185 u186 u187 u188 u189 u190 u191 u192 u193 u194 u195 u196 u197 u198 u199 u200 u201 u202 u203 u204 u205 u206 u207 u208 u209 u210 u211 u212 u213 u214 u215 u216 u217 u218 u219 u220 u221 u222 u223 u224 u225 u226 u227 u228 u229 u230 u231 u232 u233 u234 u235 u236 u237 u238 u239 u240 u241 u242 u243 u244 u245 u246 u247 u248 u249 u250 u251 u252 u253 u254 u255 u256 u257 u258 u259 u260 u261 u262 u263 u264 u265 u266 u267 u268 u269 u270 u271 u272 u273 u274 u275 u276 u277 u278 u279 u280 u281 u282 u283 u284 u285 u286 u287 u288 u289 u290 u291 u292 u293 u294 u295 u296 u297 w1 hK hB hk
  obtain ⟨rest, hrest⟩ : ∃ r, r = seqB pb19 := ⟨_, rfl⟩
  rw [← hrest] at hK
  conv at hrest => rhs; whnf
  subst hrest
  conv => arg 2; whnf
  have HB1 := Lib.hid hB
  have HK1 := Lib.hid hk
  clear hB hk
  have HNEXT := Lib.hid hnext
  clear hnext
  have HZL := Lib.hid hz.1
  have HZ1 := Lib.hid hz.2.1
  have HEZ := Lib.hid hz.2.2
  have HSZZ : Hid ((Tryz.prog.info? 31).map (·.size) = some Z.length) := Lib.hid (by rw [hz.1]; exact size_num)
  clear hz
  have HUNUM := Lib.hid Tryz.underlying31
  have HANUM := Lib.hid alloc_num
  have HZNUM : Hid (zNUM.length = 4) := Lib.hid rfl
  generalize zNUM = ZN at HANUM HZNUM
  have H1 := Lib.hid h1
  clear h1
  have H2 := Lib.hid h2
  clear h2
  have H3 := Lib.hid h3
  clear h3
  have H4 := Lib.hid h4
  clear h4
  go_wp2_with fail
  refine (H1.out w1 HB1.out).mono ?_; rintro e w2 ⟨rfl, hB2⟩
  have HB2 := Lib.hid (HB1.out.trans (hB2.mono HB1.out.size))
  have HK2 := Lib.hid (HK1.out.below hB2 HK1.out.lt)
  clear hB2 HK1
  go_wp2_with fail
  refine (H2.out w2 HB2.out).mono ?_; rintro e w3 ⟨rfl, hB3⟩
  have HB3 := Lib.hid (HB2.out.trans (hB3.mono HB2.out.size))
  have HK3 := Lib.hid (HK2.out.below hB3 HK2.out.lt)
  clear hB3 HK2
  go_wp2_with fail
  refine (H3.out w3 HB3.out).mono ?_; rintro e w4 ⟨rfl, hB4⟩
  have HB4 := Lib.hid (HB3.out.trans (hB4.mono HB3.out.size))
  have HK4 := Lib.hid (HK3.out.below hB4 HK3.out.lt)
  clear hB4 HK3
  go_upto_region 22 with (first | ((with_reducible refine wpList_is (o := ⟨some 19, .alloc 31, _, _, _, _⟩) ?_); refine wpList_allocT (o := ⟨some 19, .alloc 31, _, _, _, _⟩) rfl 31 ZN (fun W => HANUM.out W _ rfl _) ?_; intro w5 HK' HB'; obtain ⟨T19, hN⟩ : ∃ N, w4.heap.size = N := ⟨_, rfl⟩; rw [hN] at HK' ⊢; have HLT19 := Lib.hid (show B < T19 by have := HK4.out.lt; omega); have HT19_5 := HK'; have HK5 := Lib.hid (HK4.out.below HB'.out HK4.out.lt); have HB5 := Lib.hid (HB4.out.trans (HB'.out.mono HB4.out.size)); have HWT19 := Lib.hid (show w.heap.size ≤ T19 by have := HB4.out.size; omega); clear HK' HB' hN) | ((with_reducible refine wpList_is (o := ⟨none, .store 31 (.tmp 19) _, _, _, _, _⟩) ?_); refine wpList_over (o := ⟨none, .store 31 (.tmp 19) _, _, _, _, _⟩) rfl 31 _ _ rfl T19 Z ZN 31 rfl rfl HT19_5.out (by rw [HZL.out, HZNUM.out]) HSZZ.out HZ1.out ?_; intro w6 HK' hk'; have HT19_6 := HK'; have HK6 := Lib.hid (HK5.out.keep hk'.out (fun h => by have := HLT19.out; omega)); have HB6 := Lib.hid (below_keeps HB5.out hk'.out (Nat.le_refl _) (fun i hi => by rw [hi]; exact HWT19.out)); clear HK' hk'))
  go_wp2_with fail
  refine (H4.out w6 HB6.out).mono ?_; rintro e w7 ⟨rfl, hB7⟩
  have HB7 := Lib.hid (HB6.out.trans (hB7.mono HB6.out.size))
  have HK7 := Lib.hid (HK6.out.below hB7 HK6.out.lt)
  have HT19_7 := Lib.hid (HT19_6.out.below hB7 HT19_6.out.lt)
  clear hB7 HK6 HT19_6
  go_upto_region 23 with (first | ((with_reducible refine wpList_is (o := ⟨some 21, .alloc 31, _, _, _, _⟩) ?_); refine wpList_allocT (o := ⟨some 21, .alloc 31, _, _, _, _⟩) rfl 31 ZN (fun W => HANUM.out W _ rfl _) ?_; intro w8 HK' HB'; obtain ⟨T21, hN⟩ : ∃ N, w7.heap.size = N := ⟨_, rfl⟩; rw [hN] at HK' ⊢; have HLT21 := Lib.hid (show B < T21 by have := HK7.out.lt; omega); have HLT19T21 := Lib.hid (show T19 < T21 by have := HT19_7.out.lt; omega); have HT21_8 := HK'; have HK8 := Lib.hid (HK7.out.below HB'.out HK7.out.lt); have HT19_8 := Lib.hid (HT19_7.out.below HB'.out HT19_7.out.lt); have HB8 := Lib.hid (HB7.out.trans (HB'.out.mono HB7.out.size)); have HWT21 := Lib.hid (show w.heap.size ≤ T21 by have := HB7.out.size; omega); clear HK' HB' hN) | ((with_reducible refine wpList_is (o := ⟨none, .store 31 (.tmp 21) _, _, _, _, _⟩) ?_); refine wpList_over (o := ⟨none, .store 31 (.tmp 21) _, _, _, _, _⟩) rfl 31 _ _ rfl T21 Z ZN 31 rfl rfl HT21_8.out (by rw [HZL.out, HZNUM.out]) HSZZ.out HZ1.out ?_; intro w9 HK' hk'; have HT21_9 := HK'; have HK9 := Lib.hid (HK8.out.keep hk'.out (fun h => by have := HLT21.out; omega)); have HT19_9 := Lib.hid (HT19_8.out.keep hk'.out (fun h => by have := HLT19T21.out; omega)); have HB9 := Lib.hid (below_keeps HB8.out hk'.out (Nat.le_refl _) (fun i hi => by rw [hi]; exact HWT21.out)); clear HK' hk'))
  refine wp_region_lit ?_
  refine wpList_read (o := ⟨some 146, _, _, _, _, _⟩) (v := ?_) (by rfl) ?_ ?_
  rotate_left
  · go_simp
    all_goals with_reducible rfl
  (try simp only [Act.put, List.setIfInBounds_toArray, List.set_cons_zero, List.set_cons_succ])
  refine wpList_read (o := ⟨some 147, _, _, _, _, _⟩) (v := ?_) (by rfl) ?_ ?_
  rotate_left
  · go_simp
    all_goals with_reducible rfl
  (try simp only [Act.put, List.setIfInBounds_toArray, List.set_cons_zero, List.set_cons_succ])
  refine wpList_read (o := ⟨some 148, _, _, _, _, _⟩) (v := ?_) (by rfl) ?_ ?_
  rotate_left
  · go_simp
    all_goals with_reducible rfl
  (try simp only [Act.put, List.setIfInBounds_toArray, List.set_cons_zero, List.set_cons_succ])
  refine wpList_read (o := ⟨some 149, _, _, _, _, _⟩) (v := ?_) (by rfl) ?_ ?_
  rotate_left
  · go_simp
    all_goals with_reducible rfl
  (try simp only [Act.put, List.setIfInBounds_toArray, List.set_cons_zero, List.set_cons_succ])
  refine wpList_read (o := ⟨some 150, _, _, _, _, _⟩) (v := ?_) (by rfl) ?_ ?_
  rotate_left
  · go_simp
    all_goals with_reducible rfl
  (try simp only [Act.put, List.setIfInBounds_toArray, List.set_cons_zero, List.set_cons_succ])
  refine wpList_read (o := ⟨some 151, _, _, _, _, _⟩) (v := ?_) (by rfl) ?_ ?_
  rotate_left
  · go_simp
    all_goals with_reducible rfl
  (try simp only [Act.put, List.setIfInBounds_toArray, List.set_cons_zero, List.set_cons_succ])
  refine wpList_read (o := ⟨some 152, _, _, _, _, _⟩) (v := ?_) (by rfl) ?_ ?_
  rotate_left
  · go_simp
    all_goals with_reducible rfl
  (try simp only [Act.put, List.setIfInBounds_toArray, List.set_cons_zero, List.set_cons_succ])
  refine wpList_read (o := ⟨some 153, _, _, _, _, _⟩) (v := ?_) (by rfl) ?_ ?_
  rotate_left
  · go_simp
    all_goals with_reducible rfl
  (try simp only [Act.put, List.setIfInBounds_toArray, List.set_cons_zero, List.set_cons_succ])
  refine wpList_read (o := ⟨some 154, _, _, _, _, _⟩) (v := ?_) (by rfl) ?_ ?_
  rotate_left
  · go_simp
    all_goals with_reducible rfl
  (try simp only [Act.put, List.setIfInBounds_toArray, List.set_cons_zero, List.set_cons_succ])
  refine wpList_want (o := ⟨some 155, .load 31 _, _, _, _, _⟩) (v := .agg Z.toArray) (w' := _) (by rfl) (exec_loadM rfl T19 0 rfl Z _ HT19_9.out.range HUNUM.out rfl HSZZ.out) ?_
  (try simp only [Act.put, List.setIfInBounds_toArray, List.set_cons_zero, List.set_cons_succ])
  refine wpList_want (o := ⟨some 156, .load 31 _, _, _, _, _⟩) (v := .agg Z.toArray) (w' := _) (by rfl) (exec_loadM rfl T21 0 rfl Z _ HT21_9.out.range HUNUM.out rfl HSZZ.out) ?_
  (try simp only [Act.put, List.setIfInBounds_toArray, List.set_cons_zero, List.set_cons_succ])
  refine wpList_want (o := ⟨some 157, _, _, _, _, _⟩) (v := .bool false) (w' := _) (by rfl) (exec_neqS Z.toArray rfl rfl rfl nog_num (HEZ.out _)) ?_
  (try simp only [Act.put, List.setIfInBounds_toArray, List.set_cons_zero, List.set_cons_succ])
  refine wpList_read (o := ⟨some 158, _, _, _, _, _⟩) (v := ?_) (by rfl) ?_ ?_
  rotate_left
  · go_simp
    all_goals with_reducible rfl
  (try simp only [Act.put, List.setIfInBounds_toArray, List.set_cons_zero, List.set_cons_succ])
  go_upto_region 25 with fail
  exact HNEXT.out _ _ _ _ _ _ _ _ _ _ _ _ _ _ _ _ _ _ _ _ _ _ _ _ _ _ _ _ _ _ _ _ _ _ _ _ _ _ _ _ _ _ _ _ _ _ _ _ _ _ _ _ _ _ _ _ _ _ _ _ _ _ _ _ _ _ _ _ _ _ _ _ _ _ _ _ _ _ _ _ _ _ _ _ _ _ _ _ _ _ _ _ _ _ _ _ _ _ _ _ _ _ _ _ _ _ _ _ _ _ _ _ _ _ _ _ _ _ _ _ _ _ _ _ _ _ _ _ _ _ _ _ _ _ _ _ _ _ _ _ _ _ _ _ _ _ _ _ _ _ _ _ _ _ _ _ _ _ _ _ _ _ _ _ _ _ _ _ _ _ _ _ _ _ _ _ _ _ _ _ _ _ _ _ _ _ _ _ _ _ _ _ _ _ _ _ _ _ _ _ _ _ _ _ _ _ _ _ _ _ _ _ _ _ _ _ _ _ _ _ _ _ _ _ _ _ _ _ _ _ _ _ _ _ _ _ _ _ _ _ _ _ _ _ _ _ _ _ _ _ _ _ _ _ _ _ _ _ _ _ _ _ _ _ _ _ _ _ _ _ _ _ _ _ _ _ _ _ _ _ _ _ _ _ _ _ _ _ _ _ _ _ _ _ _ _ _ _ (by rename_i hK'; exact hK') HB9.out HK9.out
end Go.Proofs.YtgecfcdafbedaaaGreat

namespace Go.Proofs.YtgecfcdafbedaaaGreat
open Go.RowKit
set_option linter.unusedSimpArgs false
set_option linter.unusedVariables false

set_option maxRecDepth 100000 in
set_option maxHeartbeats 16000000 in
theorem pb25_fine {w : World} {B : Nat} {CS : List Value} {bv : Value} {Z Y : List Value} {E F : Int}
    (hz : Whole 27 32 Z) (hy : Whole 33 8 Y)
    (h1 : Tells 18 #[bv] w (.tuple #[.agg Z.toArray, .int .i64 E])) (h2 : Tells 19 #[bv] w (.tuple #[.agg Z.toArray, .int .i64 E]))
    (h3 : Tells 20 #[bv] w (.tuple #[.agg Y.toArray, .int .i64 F])) (h4 : Tells 21 #[bv] w (.tuple #[.agg Y.toArray, .int .i64 F]))
    (hnext : Fine w B CS bv pb31) : Fine w B CS bv pb25 := by
  intro K u1 u2 u4 u5 u6 u7 u8 u9 u10 u11 u12 u13 u14 u15 u16 u17 u18 u19 u20 u21 u22 u23 u24 u25 u26 u27 u28 u29 u30 u31 u32 u33 u34 u35 u36 u37 u38 u39 u40 u41 u42 u43 u44 u45 u46 u47 u48 u49 u50 u51 u52 u53 u54 u55 u56 u57 u58 u59 u60 u61 u62 u63 u64 u65 u66 u67 u68 u69 u70 u71 u72 u73 u74 u75 u76 u77 u78 u79 u80 u81 u82 u83 u84 u85 u86 u87 u88 u89 u90 u91 u92 u93 u94 u95 u96 u97 u98 u99 u100 u101 u102 u103 u104 u105 u106 u107 u108 u109 u110 u111 u112 u113 u114 u115 u116 u117 u118 u119 u120 u121 u122 u123 u124 u125 u126 u127 u128 u129 u130 u131 u132 u133 u134 u135 u136 u137 u138 u139 u140 u141 u142 u143 u144 u145 u146 u147 u148 u149 u150 u151 u152 u153 u154 u155 u156 u157 u158 u159 u160 u161 u162 u163 u164 u165 u166 u167 u168 u169 u170 u171 u172 u173 u174 u175 u176 u177 u178 u179 u180 u181 u182 u183 u184 u185 u186 u187 u188 u189 u190 u191 u192 u193 u194 u195 u196 u197 u198 u199 u200 u201 u202 u203 u204 u205 u206 u207 u208 u209 u210 u211 u212 u213 u214 u215 u216 u217 u218 u219 u220 u221 u222 u223 u224 u225 u226 u227 u228 u229 u230 u231 u232 u233 u234 u235 u236 u237 u238 u239 u240 u241 u242 u243 u244 u245 u246 u247 u248 u249 u250 u251 u252 u253 u254 u255 u256 u257 u258 u259 u260 u261 u262 u263 u264 u265 u266 u267 u268 u269 u270 u271 u272 u273 u274 u275 u276 u277 u278 u279 u280 u281 u282 u283 u284 u285 u286 u287 u288 u289 u290 u291 u292 u293 u294 u295 u296 u297 w1 hK hB hk
  obtain ⟨rest, hrest⟩ : ∃ r, r = seqB pb25 := ⟨_, rfl⟩
  rw [← hrest] at hK
  conv at hrest => rhs; whnf
  subst hrest
  conv => arg 2; whnf
  have HB1 := Lib.hid hB
  have HK1 := Lib.hid hk
  clear hB hk
  have HNEXT := Lib.hid hnext
  clear hnext
  have HZL := Lib.hid hz.1
  have HZ1 := Lib.hid hz.2.1
  have HEZ := Lib.hid hz.2.2
  have HSZZ : Hid ((Tryz.prog.info? 27).map (·.size) = some Z.length) := Lib.hid (by rw [hz.1]; exact size_sum)
  clear hz
  have HYL := Lib.hid hy.1
  have HY1 := Lib.hid hy.2.1
  have HEY := Lib.hid hy.2.2
  have HSZY : Hid ((Tryz.prog.info? 33).map (·.size) = some Y.length) := Lib.hid (by rw [hy.1]; exact size_sig)
  clear hy
  have HUSUM := Lib.hid Tryz.underlying27
  have HUSIG := Lib.hid Tryz.underlying33
  have HASUM := Lib.hid alloc_sum
  have HZSUM : Hid (zSum.length = 32) := Lib.hid (by rfl)
  generalize zSum = ZS at HASUM HZSUM
  have HASIG := Lib.hid alloc_sig
  have HZSIG : Hid (zSIG.length = 8) := Lib.hid rfl
  generalize zSIG = ZG at HASIG HZSIG
  have H1 := Lib.hid h1
  clear h1
  have H2 := Lib.hid h2
  clear h2
  have H3 := Lib.hid h3
  clear h3
  have H4 := Lib.hid h4
  clear h4
  go_wp2_with fail
  refine (H1.out w1 HB1.out).mono ?_; rintro e w2 ⟨rfl, hB2⟩
  have HB2 := Lib.hid (HB1.out.trans (hB2.mono HB1.out.size))
  have HK2 := Lib.hid (HK1.out.below hB2 HK1.out.lt)
  clear hB2 HK1
  go_upto_region 26 with (first | ((with_reducible refine wpList_is (o := ⟨some 23, .alloc 27, _, _, _, _⟩) ?_); refine wpList_allocT (o := ⟨some 23, .alloc 27, _, _, _, _⟩) rfl 27 ZS (fun W => HASUM.out W _ rfl _) ?_; intro w3 HK' HB'; obtain ⟨T23, hN⟩ : ∃ N, w2.heap.size = N := ⟨_, rfl⟩; rw [hN] at HK' ⊢; have HLT23 := Lib.hid (show B < T23 by have := HK2.out.lt; omega); have HT23_3 := HK'; have HK3 := Lib.hid (HK2.out.below HB'.out HK2.out.lt); have HB3 := Lib.hid (HB2.out.trans (HB'.out.mono HB2.out.size)); have HWT23 := Lib.hid (show w.heap.size ≤ T23 by have := HB2.out.size; omega); clear HK' HB' hN) | ((with_reducible refine wpList_is (o := ⟨none, .store 27 (.tmp 23) _, _, _, _, _⟩) ?_); refine wpList_over (o := ⟨none, .store 27 (.tmp 23) _, _, _, _, _⟩) rfl 27 _ _ rfl T23 Z ZS 27 rfl rfl HT23_3.out (by rw [HZL.out, HZSUM.out]) HSZZ.out HZ1.out ?_; intro w4 HK' hk'; have HT23_4 := HK'; have HK4 := Lib.hid (HK3.out.keep hk'.out (fun h => by have := HLT23.out; omega)); have HB4 := Lib.hid (below_keeps HB3.out hk'.out (Nat.le_refl _) (fun i hi => by rw [hi]; exact HWT23.out)); clear HK' hk'))
  go_wp2_with fail
  refine (H2.out w4 HB4.out).mono ?_; rintro e w5 ⟨rfl, hB5⟩
  have HB5 := Lib.hid (HB4.out.trans (hB5.mono HB4.out.size))
  have HK5 := Lib.hid (HK4.out.below hB5 HK4.out.lt)
  have HT23_5 := Lib.hid (HT23_4.out.below hB5 HT23_4.out.lt)
  clear hB5 HK4 HT23_4
  go_upto_region 27 with (first | ((with_reducible refine wpList_is (o := ⟨some 24, .alloc 27, _, _, _, _⟩) ?_); refine wpList_allocT (o := ⟨some 24, .alloc 27, _, _, _, _⟩) rfl 27 ZS (fun W => HASUM.out W _ rfl _) ?_; intro w6 HK' HB'; obtain ⟨T24, hN⟩ : ∃ N, w5.heap.size = N := ⟨_, rfl⟩; rw [hN] at HK' ⊢; have HLT24 := Lib.hid (show B < T24 by have := HK5.out.lt; omega); have HLT23T24 := Lib.hid (show T23 < T24 by have := HT23_5.out.lt; omega); have HT24_6 := HK'; have HK6 := Lib.hid (HK5.out.below HB'.out HK5.out.lt); have HT23_6 := Lib.hid (HT23_5.out.below HB'.out HT23_5.out.lt); have HB6 := Lib.hid (HB5.out.trans (HB'.out.mono HB5.out.size)); have HWT24 := Lib.hid (show w.heap.size ≤ T24 by have := HB5.out.size; omega); clear HK' HB' hN) | ((with_reducible refine wpList_is (o := ⟨none, .store 27 (.tmp 24) _, _, _, _, _⟩) ?_); refine wpList_over (o := ⟨none, .store 27 (.tmp 24) _, _, _, _, _⟩) rfl 27 _ _ rfl T24 Z ZS 27 rfl rfl HT24_6.out (by rw [HZL.out, HZSUM.out]) HSZZ.out HZ1.out ?_; intro w7 HK' hk'; have HT24_7 := HK'; have HK7 := Lib.hid (HK6.out.keep hk'.out (fun h => by have := HLT24.out; omega)); have HT23_7 := Lib.hid (HT23_6.out.keep hk'.out (fun h => by have := HLT23T24.out; omega)); have HB7 := Lib.hid (below_keeps HB6.out hk'.out (Nat.le_refl _) (fun i hi => by rw [hi]; exact HWT24.out)); clear HK' hk'))
  go_wp2_with fail
  refine (H3.out w7 HB7.out).mono ?_; rintro e w8 ⟨rfl, hB8⟩
  have HB8 := Lib.hid (HB7.out.trans (hB8.mono HB7.out.size))
  have HK8 := Lib.hid (HK7.out.below hB8 HK7.out.lt)
  have HT23_8 := Lib.hid (HT23_7.out.below hB8 HT23_7.out.lt)
  have HT24_8 := Lib.hid (HT24_7.out.below hB8 HT24_7.out.lt)
  clear hB8 HK7 HT23_7 HT24_7
  go_upto_region 28 with (first | ((with_reducible refine wpList_is (o := ⟨some 25, .alloc 33, _, _, _, _⟩) ?_); refine wpList_allocT (o := ⟨some 25, .alloc 33, _, _, _, _⟩) rfl 33 ZG (fun W => HASIG.out W _ rfl _) ?_; intro w9 HK' HB'; obtain ⟨T25, hN⟩ : ∃ N, w8.heap.size = N := ⟨_, rfl⟩; rw [hN] at HK' ⊢; have HLT25 := Lib.hid (show B < T25 by have := HK8.out.lt; omega); have HLT23T25 := Lib.hid (show T23 < T25 by have := HT23_8.out.lt; omega); have HLT24T25 := Lib.hid (show T24 < T25 by have := HT24_8.out.lt; omega); have HT25_9 := HK'; have HK9 := Lib.hid (HK8.out.below HB'.out HK8.out.lt); have HT23_9 := Lib.hid (HT23_8.out.below HB'.out HT23_8.out.lt); have HT24_9 := Lib.hid (HT24_8.out.below HB'.out HT24_8.out.lt); have HB9 := Lib.hid (HB8.out.trans (HB'.out.mono HB8.out.size)); have HWT25 := Lib.hid (show w.heap.size ≤ T25 by have := HB8.out.size; omega); clear HK' HB' hN) | ((with_reducible refine wpList_is (o := ⟨none, .store 33 (.tmp 25) _, _, _, _, _⟩) ?_); refine wpList_over (o := ⟨none, .store 33 (.tmp 25) _, _, _, _, _⟩) rfl 33 _ _ rfl T25 Y ZG 33 rfl rfl HT25_9.out (by rw [HYL.out, HZSIG.out]) HSZY.out HY1.out ?_; intro w10 HK' hk'; have HT25_10 := HK'; have HK10 := Lib.hid (HK9.out.keep hk'.out (fun h => by have := HLT25.out; omega)); have HT23_10 := Lib.hid (HT23_9.out.keep hk'.out (fun h => by have := HLT23T25.out; omega)); have HT24_10 := Lib.hid (HT24_9.out.keep hk'.out (fun h => by have := HLT24T25.out; omega)); have HB10 := Lib.hid (below_keeps HB9.out hk'.out (Nat.le_refl _) (fun i hi => by rw [hi]; exact HWT25.out)); clear HK' hk'))
  go_wp2_with fail
  refine (H4.out w10 HB10.out).mono ?_; rintro e w11 ⟨rfl, hB11⟩
  have HB11 := Lib.hid (HB10.out.trans (hB11.mono HB10.out.size))
  have HK11 := Lib.hid (HK10.out.below hB11 HK10.out.lt)
  have HT23_11 := Lib.hid (HT23_10.out.below hB11 HT23_10.out.lt)
  have HT24_11 := Lib.hid (HT24_10.out.below hB11 HT24_10.out.lt)
  have HT25_11 := Lib.hid (HT25_10.out.below hB11 HT25_10.out.lt)
  clear hB11 HK10 HT23_10 HT24_10 HT25_10
  go_upto_region 29 with (first | ((with_reducible refine wpList_is (o := ⟨some 26, .alloc 33, _, _, _, _⟩) ?_); refine wpList_allocT (o := ⟨some 26, .alloc 33, _, _, _, _⟩) rfl 33 ZG (fun W => HASIG.out W _ rfl _) ?_; intro w12 HK' HB'; obtain ⟨T26, hN⟩ : ∃ N, w11.heap.size = N := ⟨_, rfl⟩; rw [hN] at HK' ⊢; have HLT26 := Lib.hid (show B < T26 by have := HK11.out.lt; omega); have HLT23T26 := Lib.hid (show T23 < T26 by have := HT23_11.out.lt; omega); have HLT24T26 := Lib.hid (show T24 < T26 by have := HT24_11.out.lt; omega); have HLT25T26 := Lib.hid (show T25 < T26 by have := HT25_11.out.lt; omega); have HT26_12 := HK'; have HK12 := Lib.hid (HK11.out.below HB'.out HK11.out.lt); have HT23_12 := Lib.hid (HT23_11.out.below HB'.out HT23_11.out.lt); have HT24_12 := Lib.hid (HT24_11.out.below HB'.out HT24_11.out.lt); have HT25_12 := Lib.hid (HT25_11.out.below HB'.out HT25_11.out.lt); have HB12 := Lib.hid (HB11.out.trans (HB'.out.mono HB11.out.size)); have HWT26 := Lib.hid (show w.heap.size ≤ T26 by have := HB11.out.size; omega); clear HK' HB' hN) | ((with_reducible refine wpList_is (o := ⟨none, .store 33 (.tmp 26) _, _, _, _, _⟩) ?_); refine wpList_over (o := ⟨none, .store 33 (.tmp 26) _, _, _, _, _⟩) rfl 33 _ _ rfl T26 Y ZG 33 rfl rfl HT26_12.out (by rw [HYL.out, HZSIG.out]) HSZY.out HY1.out ?_; intro w13 HK' hk'; have HT26_13 := HK'; have HK13 := Lib.hid (HK12.out.keep hk'.out (fun h => by have := HLT26.out; omega)); have HT23_13 := Lib.hid (HT23_12.out.keep hk'.out (fun h => by have := HLT23T26.out; omega)); have HT24_13 := Lib.hid (HT24_12.out.keep hk'.out (fun h => by have := HLT24T26.out; omega)); have HT25_13 := Lib.hid (HT25_12.out.keep hk'.out (fun h => by have := HLT25T26.out; omega)); have HB13 := Lib.hid (below_keeps HB12.out hk'.out (Nat.le_refl _) (fun i hi => by rw [hi]; exact HWT26.out)); clear HK' hk'))
  refine wp_region_lit ?_
  refine wpList_want (o := ⟨some 184, .load 27 _, _, _, _, _⟩) (v := .agg Z.toArray) (w' := _) (by rfl) (exec_loadM rfl T23 0 rfl Z _ HT23_13.out.range HUSUM.out rfl HSZZ.out) ?_
  (try simp only [Act.put, List.setIfInBounds_toArray, List.set_cons_zero, List.set_cons_succ])
  refine wpList_want (o := ⟨some 185, .load 27 _, _, _, _, _⟩) (v := .agg Z.toArray) (w' := _) (by rfl) (exec_loadM rfl T24 0 rfl Z _ HT24_13.out.range HUSUM.out rfl HSZZ.out) ?_
  (try simp only [Act.put, List.setIfInBounds_toArray, List.set_cons_zero, List.set_cons_succ])
  refine wpList_want (o := ⟨some 186, _, _, _, _, _⟩) (v := .bool false) (w' := _) (by rfl) (exec_neqS Z.toArray rfl rfl rfl nog_sum (HEZ.out _)) ?_
  (try simp only [Act.put, List.setIfInBounds_toArray, List.set_cons_zero, List.set_cons_succ])
  refine wpList_read (o := ⟨some 187, _, _, _, _, _⟩) (v := ?_) (by rfl) ?_ ?_
  rotate_left
  · go_simp
    all_goals with_reducible rfl
  (try simp only [Act.put, List.setIfInBounds_toArray, List.set_cons_zero, List.set_cons_succ])
  refine wpList_read (o := ⟨some 188, _, _, _, _, _⟩) (v := ?_) (by rfl) ?_ ?_
  rotate_left
  · go_simp
    all_goals with_reducible rfl
  (try simp only [Act.put, List.setIfInBounds_toArray, List.set_cons_zero, List.set_cons_succ])
  refine wpList_read (o := ⟨some 189, _, _, _, _, _⟩) (v := ?_) (by rfl) ?_ ?_
  rotate_left
  · go_simp
    all_goals with_reducible rfl
  (try simp only [Act.put, List.setIfInBounds_toArray, List.set_cons_zero, List.set_cons_succ])
  refine wpList_read (o := ⟨some 190, _, _, _, _, _⟩) (v := ?_) (by rfl) ?_ ?_
  rotate_left
  · go_simp
    all_goals with_reducible rfl
  (try simp only [Act.put, List.setIfInBounds_toArray, List.set_cons_zero, List.set_cons_succ])
  refine wpList_read (o := ⟨some 191, _, _, _, _, _⟩) (v := ?_) (by rfl) ?_ ?_
  rotate_left
  · go_simp
    all_goals with_reducible rfl
  (try simp only [Act.put, List.setIfInBounds_toArray, List.set_cons_zero, List.set_cons_succ])
  refine wpList_read (o := ⟨some 192, _, _, _, _, _⟩) (v := ?_) (by rfl) ?_ ?_
  rotate_left
  · go_simp
    all_goals with_reducible rfl
  (try simp only [Act.put, List.setIfInBounds_toArray, List.set_cons_zero, List.set_cons_succ])
  refine wpList_want (o := ⟨some 193, .load 33 _, _, _, _, _⟩) (v := .agg Y.toArray) (w' := _) (by rfl) (exec_loadM rfl T25 0 rfl Y _ HT25_13.out.range HUSIG.out rfl HSZY.out) ?_
  (try simp only [Act.put, List.setIfInBounds_toArray, List.set_cons_zero, List.set_cons_succ])
  refine wpList_want (o := ⟨some 194, .load 33 _, _, _, _, _⟩) (v := .agg Y.toArray) (w' := _) (by rfl) (exec_loadM rfl T26 0 rfl Y _ HT26_13.out.range HUSIG.out rfl HSZY.out) ?_
  (try simp only [Act.put, List.setIfInBounds_toArray, List.set_cons_zero, List.set_cons_succ])
  refine wpList_want (o := ⟨some 195, _, _, _, _, _⟩) (v := .bool false) (w' := _) (by rfl) (exec_neqS Y.toArray rfl rfl rfl nog_sig (HEY.out _)) ?_
  (try simp only [Act.put, List.setIfInBounds_toArray, List.set_cons_zero, List.set_cons_succ])
  refine wpList_read (o := ⟨some 196, _, _, _, _, _⟩) (v := ?_) (by rfl) ?_ ?_
  rotate_left
  · go_simp
    all_goals with_reducible rfl
  (try simp only [Act.put, List.setIfInBounds_toArray, List.set_cons_zero, List.set_cons_succ])
  go_upto_region 31 with fail
  exact HNEXT.out _ _ _ _ _ _ _ _ _ _ _ _ _ _ _ _ _ _ _ _ _ _ _ _ _ _ _ _ _ _ _ _ _ _ _ _ _ _ _ _ _ _ _ _ _ _ _ _ _ _ _ _ _ _ _ _ _ _ _ _ _ _ _ _ _ _ _ _ _ _ _ _ _ _ _ _ _ _ _ _ _ _ _ _ _ _ _ _ _ _ _ _ _ _ _ _ _ _ _ _ _ _ _ _ _ _ _ _ _ _ _ _ _ _ _ _ _ _ _ _ _ _ _ _ _ _ _ _ _ _ _ _ _ _ _ _ _ _ _ _ _ _ _ _ _ _ _ _ _ _ _ _ _ _ _ _ _ _ _ _ _ _ _ _ _ _ _ _ _ _ _ _ _ _ _ _ _ _ _ _ _ _ _ _ _ _ _ _ _ _ _ _ _ _ _ _ _ _ _ _ _ _ _ _ _ _ _ _ _ _ _ _ _ _ _ _ _ _ _ _ _ _ _ _ _ _ _ _ _ _ _ _ _ _ _ _ _ _ _ _ _ _ _ _ _ _ _ _ _ _ _ _ _ _ _ _ _ _ _ _ _ _ _ _ _ _ _ _ _ _ _ _ _ _ _ _ _ _ _ _ _ _ _ _ _ _ _ _ _ _ _ _ _ _ _ _ _ _ (by rename_i hK'; exact hK') HB13.out HK13.out
end Go.Proofs.YtgecfcdafbedaaaGreat
