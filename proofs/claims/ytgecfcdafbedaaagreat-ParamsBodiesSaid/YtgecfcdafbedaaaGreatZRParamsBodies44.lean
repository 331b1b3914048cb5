/- ParamsBodies, regions 0 to 6: its bounds, its lane. (Printed by wip/mkpb.py.); ParamsBodies, regions 7 to 10: the spots got. (Printed by wip/mkpb.py.). -/
import Derived.Test.YtgecfcdafbedaaaGreatZRParamsBodies43
namespace Go.Proofs.YtgecfcdafbedaaaGreat
open Go.RowKit
set_option linter.unusedSimpArgs false
set_option linter.unusedVariables false

set_option maxRecDepth 100000 in
set_option maxHeartbeats 16000000 in
theorem pb_at {w : World} {B n c n0 c0 : Nat} {A A0 : Option Addr} {CS : List Value} {X Y E : Int} (hBw : w.heap.size = B) (hcell : ∀ W, Blk W B 35 CS → W.cell? ⟨B, 2, none⟩ = some (.slice A n c))
    (h1 : Tells 5 #[.slice A0 n0 c0] w (.tuple #[.int .u32 X, .int .u32 Y, .int .i64 E])) (h2 : Tells 6 #[.slice A0 n0 c0] w (.tuple #[.int .u32 X, .int .u32 Y, .int .i64 E]))
    (hnext : Fine w B CS (.slice A0 n0 c0) pb7) :
    Calls Tryz.prog 3 #[.slice A0 n0 c0, .agg CS.toArray] w fun e w' => e = .returned (.bool true) ∧ Below w.heap.size w w' := by
  have HS := Lib.hid hBw
  clear hBw
  have HCELL := Lib.hid hcell
  clear hcell
  have H1 := Lib.hid h1
  clear h1
  have H2 := Lib.hid h2
  clear h2
  have HNEXT := Lib.hid hnext
  clear hnext
  go_enter Tryz.func3, Tryz.ntmps3
  go_upto_region 0 with fail
  refine wp_region_lit ?_
  refine wpList_boxT (o := ⟨some 3, .box 35 _, _, _, _, _⟩) rfl 35 _ rfl CS rfl ?_; intro w1 HK1 HB1
  rw [HS.out] at HK1 ⊢
  refine wpList_read (o := ⟨some 4, _, _, _, _, _⟩) (v := ?_) (by rfl) ?_ ?_
  rotate_left
  · go_simp
    all_goals with_reducible rfl
  (try simp only [Act.put, List.setIfInBounds_toArray, List.set_cons_zero, List.set_cons_succ])
  have k2 := HCELL.out w1 HK1.out
  by_cases hg : 3000 < n0
  · have hgi : (3000 : Int) < (n0 : Int) := by omega
    go_wp2_with fail
    refine (lives_true w1).mono ?_; rintro e w2 ⟨rfl, hB2⟩
    have HB2 := Lib.hid (HB1.out.trans (hB2.mono HB1.out.size))
    clear hB2
    go_wp2_with fail
    go_ret
    exact ⟨rfl, HB2.out⟩
  · have hg' : (3000 < n0) = False := eq_false hg
    have hgi : ((3000 : Int) < (n0 : Int)) = False := eq_false (by omega)
    by_cases hm : 1000 < n
    · have hmi : (1000 : Int) < (n : Int) := by omega
      go_wp2_with fail
      refine (lives_true w1).mono ?_; rintro e w2 ⟨rfl, hB2⟩
      have HB2 := Lib.hid (HB1.out.trans (hB2.mono HB1.out.size))
      clear hB2
      go_wp2_with fail
      go_ret
      exact ⟨rfl, HB2.out⟩
    · have hm' : (1000 < n) = False := eq_false hm
      have hmi : ((1000 : Int) < (n : Int)) = False := eq_false (by omega)
      go_wp2_with fail
      clear k2 hg hg' hgi hm hm' hmi
      refine (H1.out w1 HB1.out).mono ?_; rintro e w2 ⟨rfl, hB2⟩
      have HB2 := Lib.hid (HB1.out.trans (hB2.mono HB1.out.size))
      have HK2 := Lib.hid (HK1.out.below hB2 HK1.out.lt)
      clear hB2 HK1
      go_wp2_with fail
      refine (H2.out w2 HB2.out).mono ?_; rintro e w3 ⟨rfl, hB3⟩
      have HB3 := Lib.hid (HB2.out.trans (hB3.mono HB2.out.size))
      have HK3 := Lib.hid (HK2.out.below hB3 HK2.out.lt)
      clear hB3 HK2
      go_upto_region 7 with fail
      exact HNEXT.out _ _ _ _ _ _ _ _ _ _ _ _ _ _ _ _ _ _ _ _ _ _ _ _ _ _ _ _ _ _ _ _ _ _ _ _ _ _ _ _ _ _ _ _ _ _ _ _ _ _ _ _ _ _ _ _ _ _ _ _ _ _ _ _ _ _ _ _ _ _ _ _ _ _ _ _ _ _ _ _ _ _ _ _ _ _ _ _ _ _ _ _ _ _ _ _ _ _ _ _ _ _ _ _ _ _ _ _ _ _ _ _ _ _ _ _ _ _ _ _ _ _ _ _ _ _ _ _ _ _ _ _ _ _ _ _ _ _ _ _ _ _ _ _ _ _ _ _ _ _ _ _ _ _ _ _ _ _ _ _ _ _ _ _ _ _ _ _ _ _ _ _ _ _ _ _ _ _ _ _ _ _ _ _ _ _ _ _ _ _ _ _ _ _ _ _ _ _ _ _ _ _ _ _ _ _ _ _ _ _ _ _ _ _ _ _ _ _ _ _ _ _ _ _ _ _ _ _ _ _ _ _ _ _ _ _ _ _ _ _ _ _ _ _ _ _ _ _ _ _ _ _ _ _ _ _ _ _ _ _ _ _ _ _ _ _ _ _ _ _ _ _ _ _ _ _ _ _ _ _ _ _ _ _ _ _ _ _ _ _ _ _ _ _ _ _ _ _ (by rename_i hK'; exact hK') HB3.out HK3.out
end Go.Proofs.YtgecfcdafbedaaaGreat

namespace Go.Proofs.YtgecfcdafbedaaaGreat
open Go.RowKit
set_option linter.unusedSimpArgs false
set_option linter.unusedVariables false

set_option maxRecDepth 100000 in
set_option maxHeartbeats 16000000 in
theorem pb7_fine {w : World} {B : Nat} {CS : List Value} {bv : Value} {ys : List Int} {E : Int}
    (h1 : Lists .u32 7 #[bv] w ys E) (h2 : Lists .u32 8 #[bv] w ys E)
    (hnext : Fine w B CS bv pb11) : Fine w B CS bv pb7 := by
  intro K u1 u2 u4 u5 u6 u7 u8 u9 u10 u11 u12 u13 u14 u15 u16 u17 u18 u19 u20 u21 u22 u23 u24 u25 u26 u27 u28 u29 u30 u31 u32 u33 u34 u35 u36 u37 u38 u39 u40 u41 u42 u43 u44 u45 u46 u47 u48 u49 u50 u51 u52 u53 u54 u55 u56 u57 u58 u59 u60 u61 u62 u63 u64 u65 u66 u67 u68 u69 u70 u71 u72 u73 u74 u75 u76 u77 u78 u79 u80 u81 u82 u83 u84 u85 u86 u87 u88 u89 u90 u91 u92 u93 u94 u95 u96 u97 u98 u99 u100 u101 u102 u103 u104 u105 u106 u107 u108 u109 u110 u111 u112 u113 u114 u115 u116 u117 u118 u119 u120 u121 u122 u123 u124 u125 u126 u127 u128 u129 u130 u131 u132 u133 u134 u135 u136 u137 u138 u139 u140 u141 u142 u143 u144 u145 u146 u147 u148 u149 u150 u151 u152 u153 u154 u155 u156 u157 u158 u159 u160 u161 u162 u163 u164 u165 u166 u167 u168 u169 u170 u171 u172 u173 u174 u175 u176 u177 u178 u179 u180 u181 u182 u183 u184 u185 u186 u187 u188 u189 u190 u191 u192 u193 u194 u195 u196 u197 u198 u199 u200 u201 u202 u203 u204 u205 u206 u207 u208 u209 u210 u211 u212 u213 u214 u215 u216 u217 u218 u219 u220 u221 u222 u223 u224 u225 u226 u227 u228 u229 u230 u231 u232 u233 u234 u235 u236 u237 u238 u239 u240 u241 u242 u243 u244 u245 u246 u247 u248 u249 u250 u251 u252 u253 u254 u255 u256 u257 u258 u259 u260 u261 u262 u263 u264 u265 u266 u267 u268 u269 u270 u271 u272 u273 u274 u275 u276 u277 u278 u279 u280 u281 u282 u283 u284 u285 u286 u287 u288 u289 u290 u291 u292 u293 u294 u295 u296 u297 w1 hK hB hk
  obtain ⟨rest, hrest⟩ : ∃ r, r = seqB pb7 := ⟨_, rfl⟩
  rw [← hrest] at hK
  conv at hrest => rhs; whnf
  subst hrest
  conv => arg 2; whnf
  have HB1 := Lib.hid hB
  have HK1 := Lib.hid hk
  clear hB hk
  have HNEXT := Lib.hid hnext
  clear hnext
  have H1 := Lib.hid h1
  clear h1
  have H2 := Lib.hid h2
  clear h2
  go_wp2_with fail
  refine (H1.out w1 HB1.out).mono ?_; rintro e w2 ⟨g2, m2, c2, rfl, r2, hB2⟩
  have R2 := Lib.hid r2
  clear r2
  have HB2 := Lib.hid (HB1.out.trans (hB2.mono HB1.out.size))
  have HK2 := Lib.hid (HK1.out.below hB2 HK1.out.lt)
  clear hB2 HK1
  go_wp2_with fail
  refine (H2.out w2 HB2.out).mono ?_; rintro e w3 ⟨g3, m3, c3, rfl, r3, hB3⟩
  have R3 := Lib.hid r3
  have R23 := Lib.hid (R2.out.below hB3)
  clear r3 R2
  have HB3 := Lib.hid (HB2.out.trans (hB3.mono HB2.out.size))
  have HK3 := Lib.hid (HK2.out.below hB3 HK2.out.lt)
  clear hB3 HK2
  go_wp2_with fail
  refine (sames_yes R23.out R3.out).mono ?_; rintro e w4 ⟨rfl, hB4⟩
  have HB4 := Lib.hid (HB3.out.trans (hB4.mono HB3.out.size))
  have HK4 := Lib.hid (HK3.out.below hB4 HK3.out.lt)
  clear hB4 HK3
  go_upto_region 11 with fail
  exact HNEXT.out _ _ _ _ _ _ _ _ _ _ _ _ _ _ _ _ _ _ _ _ _ _ _ _ _ _ _ _ _ _ _ _ _ _ _ _ _ _ _ _ _ _ _ _ _ _ _ _ _ _ _ _ _ _ _ _ _ _ _ _ _ _ _ _ _ _ _ _ _ _ _ _ _ _ _ _ _ _ _ _ _ _ _ _ _ _ _ _ _ _ _ _ _ _ _ _ _ _ _ _ _ _ _ _ _ _ _ _ _ _ _ _ _ _ _ _ _ _ _ _ _ _ _ _ _ _ _ _ _ _ _ _ _ _ _ _ _ _ _ _ _ _ _ _ _ _ _ _ _ _ _ _ _ _ _ _ _ _ _ _ _ _ _ _ _ _ _ _ _ _ _ _ _ _ _ _ _ _ _ _ _ _ _ _ _ _ _ _ _ _ _ _ _ _ _ _ _ _ _ _ _ _ _ _ _ _ _ _ _ _ _ _ _ _ _ _ _ _ _ _ _ _ _ _ _ _ _ _ _ _ _ _ _ _ _ _ _ _ _ _ _ _ _ _ _ _ _ _ _ _ _ _ _ _ _ _ _ _ _ _ _ _ _ _ _ _ _ _ _ _ _ _ _ _ _ _ _ _ _ _ _ _ _ _ _ _ _ _ _ _ _ _ _ _ _ _ _ _ (by rename_i hK'; exact hK') HB4.out HK4.out
end Go.Proofs.YtgecfcdafbedaaaGreat
