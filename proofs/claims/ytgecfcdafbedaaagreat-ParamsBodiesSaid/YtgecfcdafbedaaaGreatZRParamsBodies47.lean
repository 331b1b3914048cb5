/- ParamsBodies, regions 31 to 33: what is put. (Printed by wip/mkpb.py.). -/
import Derived.Test.YtgecfcdafbedaaaGreatZRParamsBodies43
namespace Go.Proofs.YtgecfcdafbedaaaGreat
open Go.RowKit
set_option linter.unusedSimpArgs false
set_option linter.unusedVariables false

set_option maxRecDepth 100000 in
set_option maxHeartbeats 16000000 in
theorem pb31_fine {w : World} {B : Nat} {CS : List Value} {bv : Value} {A : Option Addr} {n c : Nat} {x y E : Int} {P J S C : List Value} {sb bl bo bp bc bn bu bg : List Int}
    (hcell : ∀ W, Blk W B 35 CS → W.cell? ⟨B, 0, none⟩ = some (.int .u32 x) ∧ W.cell? ⟨B, 1, none⟩ = some (.int .u32 y) ∧ W.cell? ⟨B, 2, none⟩ = some (.slice A n c) ∧ W.rangeAt B 3 P ∧ W.rangeAt B 37 J ∧ W.rangeAt B 69 S ∧ W.rangeAt B 69 C)
    (hP : P.length = 34) (hJ : J.length = 32) (hS : S.length = 8) (hC : C.length = 4)
    (h1 : Lists .u8 22 #[.slice A n c] w sb E) (h2 : Lists .u8 23 #[.slice A n c] w sb E)
    (hLANE : Gives 25 #[.int .u32 x, .int .u32 y] w bl) (kLANE : Gives 26 #[.int .u32 x, .int .u32 y] w bl)
    (hSOL : Gives 27 #[.agg P.toArray, .agg J.toArray] w bo) (kSOL : Gives 28 #[.agg P.toArray, .agg J.toArray] w bo)
    (hPUZ : Gives 29 #[.agg P.toArray] w bp) (kPUZ : Gives 30 #[.agg P.toArray] w bp)
    (hCOUNT : Gives 31 #[.int .u32 x] w bc) (kCOUNT : Gives 32 #[.int .u32 x] w bc)
    (hLONG : Gives 33 #[.agg C.toArray] w bn) (kLONG : Gives 34 #[.agg C.toArray] w bn)
    (hSUM : Gives 35 #[.agg J.toArray] w bu) (kSUM : Gives 36 #[.agg J.toArray] w bu)
    (hSIG : Gives 37 #[.agg S.toArray] w bg) (kSIG : Gives 38 #[.agg S.toArray] w bg) : Fine w B CS bv pb31 := by
  intro K u1 u2 u4 u5 u6 u7 u8 u9 u10 u11 u12 u13 u14 u15 u16 u17 u18 u19 u20 u21 u22 u23 u24 u25 u26 u27 u28 u29 u30 u31 u32 u33 u34 u35 u36 u37 u38 u39 u40 u41 u42 u43 u44 u45 u46 u47 u48 u49 u50 u51 u52 u53 u54 u55 u56 u57 u58 u59 u60 u61 u62 u63 u64 u65 u66 u67 u68 u69 u70 u71 u72 u73 u74 u75 u76 u77 u78 u79 u80 u81 u82 u83 u84 u85 u86 u87 u88 u89 u90 u91 u92 u93 u94 u95 u96 u97 u98 u99 u100 u101 u102 u103 u104 u105 u106 u107 u108 u109 u110 u111 u112 u113 u114 u115 u116 u117 u118 u119 u120 u121 u122 u123 u124 u125 u126 u127 u128 u129 u130 u131 u132 u133 u134 u135 u136 u137 u138 u139 u140 u141 u142 u143 u144 u145 u146 u147 u148 u149 u150 u151 u152 u153 u154 u155 u156 u157 u158 u159 u160 u161 u162 u163 u164 u165 u166 u167 u168 u169 u170 u171 u172 u173 u174 u175 u176 u177 u178 u179 u180 u181 u182 u183 u184 u185 u186 u187 u188 u189 u190 u191 u192 u193 u194 u195 u196 u197 u198 u199 u200 u201 u202 u203 u204 u205 u206 u207 u208 u209 u210 u211 u212 u213 u214 u215 u216 u217 u218 u219 u220 u221 u222 u223 u224 u225 u226 u227 u228 u229 u230 u231 u232 u233 u234 u235 u236 u237 u238 u239 u240 u241 u242 u243 u244 u245 u246 u247 u248 u249 u250 u251 u252 u253 u254 u255 u256 u257 u258 u259 u260 u261 u262 u263 u264 u265 u266 u267 u268 u269 u270 u271 u272 u273 u274 u275 u276 u277 u278 u279 u280 u281 u282 u283 u284 u285 u286 u287 u288 u289 u290 u291 u292 u293 u294 u295 u296 u297 w1 hK hB hk
  obtain ⟨rest, hrest⟩ : ∃ r, r = seqB pb31 := ⟨_, rfl⟩
  rw [← hrest] at hK
  conv at hrest => rhs; whnf
  subst hrest
  conv => arg 2; whnf
  have HB1 := Lib.hid hB
  have HK1 := Lib.hid hk
  clear hB hk
  have HUPUZ := Lib.hid Tryz.underlying29
  have HSZP : Hid ((Tryz.prog.info? 29).map (·.size) = some P.length) := Lib.hid (by rw [hP]; exact size_puz)
  clear hP
  have HUSUM := Lib.hid Tryz.underlying27
  have HSZJ : Hid ((Tryz.prog.info? 27).map (·.size) = some J.length) := Lib.hid (by rw [hJ]; exact size_sum)
  clear hJ
  have HUSIG := Lib.hid Tryz.underlying33
  have HSZS : Hid ((Tryz.prog.info? 33).map (·.size) = some S.length) := Lib.hid (by rw [hS]; exact size_sig)
  clear hS
  have HUNUM := Lib.hid Tryz.underlying31
  have HSZC : Hid ((Tryz.prog.info? 31).map (·.size) = some C.length) := Lib.hid (by rw [hC]; exact size_num)
  clear hC
  have HCELL := Lib.hid hcell
  clear hcell
  have H1 := Lib.hid h1
  clear h1
  have H2 := Lib.hid h2
  clear h2
  have HLANE := Lib.hid hLANE
  clear hLANE
  have KLANE := Lib.hid kLANE
  clear kLANE
  have HSOL := Lib.hid hSOL
  clear hSOL
  have KSOL := Lib.hid kSOL
  clear kSOL
  have HPUZ := Lib.hid hPUZ
  clear hPUZ
  have KPUZ := Lib.hid kPUZ
  clear kPUZ
  have HCOUNT := Lib.hid hCOUNT
  clear hCOUNT
  have KCOUNT := Lib.hid kCOUNT
  clear kCOUNT
  have HLONG := Lib.hid hLONG
  clear hLONG
  have KLONG := Lib.hid kLONG
  clear kLONG
  have HSUM := Lib.hid hSUM
  clear hSUM
  have KSUM := Lib.hid kSUM
  clear kSUM
  have HSIG := Lib.hid hSIG
  clear hSIG
  have KSIG := Lib.hid kSIG
  clear kSIG
  obtain ⟨-, -, k2, -⟩ := HCELL.out w1 HK1.out
  go_wp2_with fail
  refine (H1.out w1 HB1.out).mono ?_; rintro e w2 ⟨g2, m2, c2, rfl, r2, hB2⟩
  have R2 := Lib.hid r2
  clear r2 k2
  have HB2 := Lib.hid (HB1.out.trans (hB2.mono HB1.out.size))
  have HK2 := Lib.hid (HK1.out.below hB2 HK1.out.lt)
  clear hB2 HK1
  obtain ⟨-, -, k2, -⟩ := HCELL.out w2 HK2.out
  go_wp2_with fail
  refine (H2.out w2 HB2.out).mono ?_; rintro e w3 ⟨g3, m3, c3, rfl, r3, hB3⟩
  have Q3 := Lib.hid r3
  have R3 := Lib.hid (R2.out.below hB3)
  clear r3 R2 k2
  have HB3 := Lib.hid (HB2.out.trans (hB3.mono HB2.out.size))
  have HK3 := Lib.hid (HK2.out.below hB3 HK2.out.lt)
  clear hB3 HK2
  go_upto_region 33 with fail
  obtain ⟨w4, hw4⟩ : ∃ W, W = w3.drew := ⟨_, rfl⟩
  have hB4 : Below w3.heap.size w3 w3.drew := by have h := Below.refl w3.heap.size w3; exact ⟨h.os, h.tape, h.output, h.size, h.block⟩
  have R4 := Lib.hid (R3.out.below hB4)
  have Q4 := Lib.hid (Q3.out.below hB4)
  have HB4 := Lib.hid (HB3.out.trans (hB4.mono HB3.out.size))
  have HK4 := Lib.hid (HK3.out.below hB4 HK3.out.lt)
  clear hB4 R3 Q3 HK3
  as_aux_lemma =>
    obtain ⟨k0, k1, -, kp, kj, ks, kc⟩ := HCELL.out w3.drew HK4.out
    refine wp_region_noPanic ?_
    refine wp_region_held_drew (S := (fun w' => w'.cell? ⟨B, 0, none⟩ = some (.int .u32 x) ∧ w'.cell? ⟨B, 1, none⟩ = some (.int .u32 y) ∧ w'.rangeAt B 3 P ∧ w'.rangeAt B 37 J ∧ w'.rangeAt B 69 S ∧ w'.rangeAt B 69 C)) (by kernel_rfl) ?_ (fun hHeld => ?_)
    · ((try dsimp only); refine ⟨?_, ?_, ?_, ?_, ?_, ?_⟩ <;> (first | assumption | (go_keep; done)))
    refine wpAnyH_take (i := 0) (oi := ⟨some 214, _, _, _, _, _⟩) (v := ?_) rfl (by kernel_rfl) (by kernel_rfl) (by kernel_rfl) (fun _ _ _ h => False.elim h) (Or.inl ⟨by rfl, ?_⟩) (by assumption) ?_
    rotate_left
    · intro w hSw
      (try dsimp only at hSw)
      go_simp
      all_goals with_reducible rfl
    (try simp only [Act.put, List.setIfInBounds_toArray, List.set_cons_zero, List.set_cons_succ])
    refine wpAnyH_take (i := 1) (oi := ⟨some 215, _, _, _, _, _⟩) (v := ?_) rfl (by kernel_rfl) (by kernel_rfl) (by kernel_rfl) (fun _ _ _ h => False.elim h) (Or.inl ⟨by rfl, ?_⟩) (by assumption) ?_
    rotate_left
    · intro w hSw
      (try dsimp only at hSw)
      go_simp
      all_goals with_reducible rfl
    (try simp only [Act.put, List.setIfInBounds_toArray, List.set_cons_zero, List.set_cons_succ])
    refine wpAnyH_take (i := 2) (oi := ⟨some 216, _, _, _, _, _⟩) (v := ?_) rfl (by kernel_rfl) (by kernel_rfl) (by kernel_rfl) (fun _ _ _ h => False.elim h) (Or.inl ⟨by rfl, ?_⟩) (by assumption) ?_
    rotate_left
    · intro w hSw
      (try dsimp only at hSw)
      go_simp
      all_goals with_reducible rfl
    (try simp only [Act.put, List.setIfInBounds_toArray, List.set_cons_zero, List.set_cons_succ])
    refine wpAnyH_take (i := 3) (oi := ⟨some 217, _, _, _, _, _⟩) (v := ?_) rfl (by kernel_rfl) (by kernel_rfl) (by kernel_rfl) (fun _ _ _ h => False.elim h) (Or.inl ⟨by rfl, ?_⟩) (by assumption) ?_
    rotate_left
    · intro w hSw
      (try dsimp only at hSw)
      go_simp
      all_goals with_reducible rfl
    (try simp only [Act.put, List.setIfInBounds_toArray, List.set_cons_zero, List.set_cons_succ])
    refine wpAnyH_take (i := 4) (oi := ⟨some 218, _, _, _, _, _⟩) (v := ?_) rfl (by kernel_rfl) (by kernel_rfl) (by kernel_rfl) (fun _ _ _ h => False.elim h) (Or.inl ⟨by rfl, ?_⟩) (by assumption) ?_
    rotate_left
    · intro w hSw
      (try dsimp only at hSw)
      go_simp
      all_goals with_reducible rfl
    (try simp only [Act.put, List.setIfInBounds_toArray, List.set_cons_zero, List.set_cons_succ])
    refine wpAnyH_take (i := 5) (oi := ⟨some 219, _, _, _, _, _⟩) (v := ?_) rfl (by kernel_rfl) (by kernel_rfl) (by kernel_rfl) (fun _ _ _ h => False.elim h) (Or.inl ⟨by rfl, ?_⟩) (by assumption) ?_
    rotate_left
    · intro w hSw
      (try dsimp only at hSw)
      go_simp
      all_goals with_reducible rfl
    (try simp only [Act.put, List.setIfInBounds_toArray, List.set_cons_zero, List.set_cons_succ])
    refine wpAnyH_ready (rs := [6]) (by kernel_rfl) (by simp) ?_
    refine AllReadyH.cons (o := ⟨some 220, _, _, _, _, _⟩) rfl (fun K hK => ?_) AllReadyH.nil
    go_simp
    (refine (same_yes R4.out Q4.out).mono ?_; rintro e w5 ⟨rfl, hB5⟩; clear R4 Q4; have HB5 := Lib.hid (HB4.out.trans (hB5.mono HB4.out.size)); have HK5 := Lib.hid (HK4.out.below hB5 HK4.out.lt); clear k0 k1 kp kj ks kc HK4; obtain ⟨k0, k1, -, kp, kj, ks, kc⟩ := HCELL.out w5 HK5.out; clear hB5)
    (try go_wp2_with fail)
    refine hK.out _ _ ?_ (fun hHeld => ?_)
    · ((try dsimp only); refine ⟨?_, ?_, ?_, ?_, ?_, ?_⟩ <;> (first | assumption | (go_keep; done)))
    clear hK K
    (try simp only [Act.put, List.setIfInBounds_toArray, List.set_cons_zero, List.set_cons_succ])
    as_aux_lemma =>
      refine wpAnyH_take (i := 7) (oi := ⟨some 221, _, _, _, _, _⟩) (v := ?_) rfl (by kernel_rfl) (by kernel_rfl) (by kernel_rfl) (fun _ _ _ h => False.elim h) (Or.inl ⟨by rfl, ?_⟩) (by assumption) ?_
      rotate_left
      · intro w hSw
        (try dsimp only at hSw)
        go_simp
        all_goals with_reducible rfl
      (try simp only [Act.put, List.setIfInBounds_toArray, List.set_cons_zero, List.set_cons_succ])
      refine wpAnyH_take (i := 8) (oi := ⟨some 222, _, _, _, _, _⟩) (v := ?_) rfl (by kernel_rfl) (by kernel_rfl) (by kernel_rfl) (fun _ _ _ h => False.elim h) (Or.inl ⟨by rfl, ?_⟩) (by assumption) ?_
      rotate_left
      · intro w hSw
        (try dsimp only at hSw)
        go_simp
        all_goals with_reducible rfl
      (try simp only [Act.put, List.setIfInBounds_toArray, List.set_cons_zero, List.set_cons_succ])
      refine wpAnyH_take (i := 9) (oi := ⟨some 223, _, _, _, _, _⟩) (v := ?_) rfl (by kernel_rfl) (by kernel_rfl) (by kernel_rfl) (fun _ _ _ h => False.elim h) (Or.inl ⟨by rfl, ?_⟩) (by assumption) ?_
      rotate_left
      · intro w hSw
        (try dsimp only at hSw)
        go_simp
        all_goals with_reducible rfl
      (try simp only [Act.put, List.setIfInBounds_toArray, List.set_cons_zero, List.set_cons_succ])
      refine wpAnyH_take (i := 10) (oi := ⟨some 224, _, _, _, _, _⟩) (v := ?_) rfl (by kernel_rfl) (by kernel_rfl) (by kernel_rfl) (fun _ _ _ h => False.elim h) (Or.inl ⟨by rfl, ?_⟩) (by assumption) ?_
      rotate_left
      · intro w hSw
        (try dsimp only at hSw)
        go_simp
        all_goals with_reducible rfl
      (try simp only [Act.put, List.setIfInBounds_toArray, List.set_cons_zero, List.set_cons_succ])
      refine wpAnyH_take (i := 11) (oi := ⟨some 225, _, _, _, _, _⟩) (v := ?_) rfl (by kernel_rfl) (by kernel_rfl) (by kernel_rfl) (fun _ _ _ h => False.elim h) (Or.inl ⟨by rfl, ?_⟩) (by assumption) ?_
      rotate_left
      · intro w hSw
        (try dsimp only at hSw)
        go_simp
        all_goals with_reducible rfl
      (try simp only [Act.put, List.setIfInBounds_toArray, List.set_cons_zero, List.set_cons_succ])
      refine wpAnyH_take (i := 12) (oi := ⟨some 226, _, _, _, _, _⟩) (v := ?_) rfl (by kernel_rfl) (by kernel_rfl) (by kernel_rfl) (fun _ _ _ h => False.elim h) (Or.inl ⟨by rfl, ?_⟩) (by assumption) ?_
      rotate_left
      · intro w hSw
        (try dsimp only at hSw)
        go_simp
        all_goals with_reducible rfl
      (try simp only [Act.put, List.setIfInBounds_toArray, List.set_cons_zero, List.set_cons_succ])
      refine wpAnyH_take (i := 14) (oi := ⟨some 228, _, _, _, _, _⟩) (v := ?_) rfl (by kernel_rfl) (by kernel_rfl) (by kernel_rfl) (fun _ _ _ h => False.elim h) (Or.inl ⟨by rfl, ?_⟩) (by assumption) ?_
      rotate_left
      · intro w hSw
        (try dsimp only at hSw)
        go_simp
        all_goals with_reducible rfl
      (try simp only [Act.put, List.setIfInBounds_toArray, List.set_cons_zero, List.set_cons_succ])
      refine wpAnyH_take (i := 15) (oi := ⟨some 229, _, _, _, _, _⟩) (v := ?_) rfl (by kernel_rfl) (by kernel_rfl) (by kernel_rfl) (fun _ _ _ h => False.elim h) (Or.inl ⟨by rfl, ?_⟩) (by assumption) ?_
      rotate_left
      · intro w hSw
        (try dsimp only at hSw)
        go_simp
        all_goals with_reducible rfl
      (try simp only [Act.put, List.setIfInBounds_toArray, List.set_cons_zero, List.set_cons_succ])
      refine wpAnyH_take (i := 16) (oi := ⟨some 230, _, _, _, _, _⟩) (v := ?_) rfl (by kernel_rfl) (by kernel_rfl) (by kernel_rfl) (fun _ _ _ h => False.elim h) (Or.inl ⟨by rfl, ?_⟩) (by assumption) ?_
      rotate_left
      · intro w hSw
        (try dsimp only at hSw)
        go_simp
        all_goals with_reducible rfl
      (try simp only [Act.put, List.setIfInBounds_toArray, List.set_cons_zero, List.set_cons_succ])
      refine wpAnyH_take (i := 17) (oi := ⟨some 231, _, _, _, _, _⟩) (v := ?_) rfl (by kernel_rfl) (by kernel_rfl) (by kernel_rfl) (fun _ _ _ h => False.elim h) (Or.inl ⟨by rfl, ?_⟩) (by assumption) ?_
      rotate_left
      · intro w hSw
        (try dsimp only at hSw)
        go_simp
        all_goals with_reducible rfl
      (try simp only [Act.put, List.setIfInBounds_toArray, List.set_cons_zero, List.set_cons_succ])
      refine wpAnyH_ready (rs := [13]) (by kernel_rfl) (by simp) ?_
      refine AllReadyH.cons (o := ⟨some 227, _, _, _, _, _⟩) rfl (fun K hK => ?_) AllReadyH.nil
      go_simp
      (refine (HLANE.out _ HB5.out).mono ?_; rintro e w6 ⟨g6, m6, c6, rfl, r6, hB6⟩; have R6 := Lib.hid r6; clear r6; have HB6 := Lib.hid (HB5.out.trans (hB6.mono HB5.out.size)); have HK6 := Lib.hid (HK5.out.below hB6 HK5.out.lt); clear k0 k1 kp kj ks kc HK5; obtain ⟨k0, k1, -, kp, kj, ks, kc⟩ := HCELL.out w6 HK6.out; clear hB6)
      (try go_wp2_with fail)
      refine hK.out _ _ ?_ (fun hHeld => ?_)
      · ((try dsimp only); refine ⟨?_, ?_, ?_, ?_, ?_, ?_⟩ <;> (first | assumption | (go_keep; done)))
      clear hK K
      (try simp only [Act.put, List.setIfInBounds_toArray, List.set_cons_zero, List.set_cons_succ])
      refine wpAnyH_ready (rs := [18]) (by kernel_rfl) (by simp) ?_
      refine AllReadyH.cons (o := ⟨some 232, _, _, _, _, _⟩) rfl (fun K hK => ?_) AllReadyH.nil
      go_simp
      (refine (KLANE.out _ HB6.out).mono ?_; rintro e w7 ⟨g7, m7, c7, rfl, r7, hB7⟩; have Q7 := Lib.hid r7; have R7 := Lib.hid (R6.out.below hB7); clear r7 R6; have HB7 := Lib.hid (HB6.out.trans (hB7.mono HB6.out.size)); have HK7 := Lib.hid (HK6.out.below hB7 HK6.out.lt); clear k0 k1 kp kj ks kc HK6; obtain ⟨k0, k1, -, kp, kj, ks, kc⟩ := HCELL.out w7 HK7.out; clear hB7)
      (try go_wp2_with fail)
      refine hK.out _ _ ?_ (fun hHeld => ?_)
      · ((try dsimp only); refine ⟨?_, ?_, ?_, ?_, ?_, ?_⟩ <;> (first | assumption | (go_keep; done)))
      clear hK K
      (try simp only [Act.put, List.setIfInBounds_toArray, List.set_cons_zero, List.set_cons_succ])
      refine wpAnyH_ready (rs := [19]) (by kernel_rfl) (by simp) ?_
      refine AllReadyH.cons (o := ⟨some 233, _, _, _, _, _⟩) rfl (fun K hK => ?_) AllReadyH.nil
      go_simp
      (refine (same_yes R7.out Q7.out).mono ?_; rintro e w8 ⟨rfl, hB8⟩; clear R7 Q7; have HB8 := Lib.hid (HB7.out.trans (hB8.mono HB7.out.size)); have HK8 := Lib.hid (HK7.out.below hB8 HK7.out.lt); clear k0 k1 kp kj ks kc HK7; obtain ⟨k0, k1, -, kp, kj, ks, kc⟩ := HCELL.out w8 HK8.out; clear hB8)
      (try go_wp2_with fail)
      refine hK.out _ _ ?_ (fun hHeld => ?_)
      · ((try dsimp only); refine ⟨?_, ?_, ?_, ?_, ?_, ?_⟩ <;> (first | assumption | (go_keep; done)))
      clear hK K
      (try simp only [Act.put, List.setIfInBounds_toArray, List.set_cons_zero, List.set_cons_succ])
      as_aux_lemma =>
        refine wpAnyH_take (i := 20) (oi := ⟨some 234, _, _, _, _, _⟩) (v := ?_) rfl (by kernel_rfl) (by kernel_rfl) (by kernel_rfl) (fun _ _ _ h => False.elim h) (Or.inl ⟨by rfl, ?_⟩) (by assumption) ?_
        rotate_left
        · intro w hSw
          (try dsimp only at hSw)
          go_simp
          all_goals with_reducible rfl
        (try simp only [Act.put, List.setIfInBounds_toArray, List.set_cons_zero, List.set_cons_succ])
        refine wpAnyH_take (i := 21) (oi := ⟨some 235, _, _, _, _, _⟩) (v := ?_) rfl (by kernel_rfl) (by kernel_rfl) (by kernel_rfl) (fun _ _ _ h => False.elim h) (Or.inl ⟨by rfl, ?_⟩) (by assumption) ?_
        rotate_left
        · intro w hSw
          (try dsimp only at hSw)
          go_simp
          all_goals with_reducible rfl
        (try simp only [Act.put, List.setIfInBounds_toArray, List.set_cons_zero, List.set_cons_succ])
        refine wpAnyH_take (i := 22) (oi := ⟨some 236, _, _, _, _, _⟩) (v := ?_) rfl (by kernel_rfl) (by kernel_rfl) (by kernel_rfl) (fun _ _ _ h => False.elim h) (Or.inl ⟨by rfl, ?_⟩) (by assumption) ?_
        rotate_left
        · intro w hSw
          (try dsimp only at hSw)
          go_simp
          all_goals with_reducible rfl
        (try simp only [Act.put, List.setIfInBounds_toArray, List.set_cons_zero, List.set_cons_succ])
        refine wpAnyH_take (i := 23) (oi := ⟨some 237, _, _, _, _, _⟩) (v := .agg P.toArray) rfl (by kernel_rfl) (by kernel_rfl) (by kernel_rfl) (fun _ _ _ h => False.elim h) ?_ (by assumption) ?_
        · refine yieldsIf_load_mid ?_ 29 _ rfl B 3 rfl P _ ?_ HUPUZ.out rfl HSZP.out
          · rfl
          · (intro w hSw; exact hSw.2.2.1)
        (try simp only [Act.put, List.setIfInBounds_toArray, List.set_cons_zero, List.set_cons_succ])
        refine wpAnyH_take (i := 24) (oi := ⟨some 238, _, _, _, _, _⟩) (v := ?_) rfl (by kernel_rfl) (by kernel_rfl) (by kernel_rfl) (fun _ _ _ h => False.elim h) (Or.inl ⟨by rfl, ?_⟩) (by assumption) ?_
        rotate_left
        · intro w hSw
          (try dsimp only at hSw)
          go_simp
          all_goals with_reducible rfl
        (try simp only [Act.put, List.setIfInBounds_toArray, List.set_cons_zero, List.set_cons_succ])
        refine wpAnyH_take (i := 25) (oi := ⟨some 239, _, _, _, _, _⟩) (v := .agg J.toArray) rfl (by kernel_rfl) (by kernel_rfl) (by kernel_rfl) (fun _ _ _ h => False.elim h) ?_ (by assumption) ?_
        · refine yieldsIf_load_mid ?_ 27 _ rfl B 37 rfl J _ ?_ HUSUM.out rfl HSZJ.out
          · rfl
          · (intro w hSw; exact hSw.2.2.2.1)
        (try simp only [Act.put, List.setIfInBounds_toArray, List.set_cons_zero, List.set_cons_succ])
        refine wpAnyH_take (i := 27) (oi := ⟨some 241, _, _, _, _, _⟩) (v := ?_) rfl (by kernel_rfl) (by kernel_rfl) (by kernel_rfl) (fun _ _ _ h => False.elim h) (Or.inl ⟨by rfl, ?_⟩) (by assumption) ?_
        rotate_left
        · intro w hSw
          (try dsimp only at hSw)
          go_simp
          all_goals with_reducible rfl
        (try simp only [Act.put, List.setIfInBounds_toArray, List.set_cons_zero, List.set_cons_succ])
        refine wpAnyH_take (i := 28) (oi := ⟨some 242, _, _, _, _, _⟩) (v := .agg P.toArray) rfl (by kernel_rfl) (by kernel_rfl) (by kernel_rfl) (fun _ _ _ h => False.elim h) ?_ (by assumption) ?_
        · refine yieldsIf_load_mid ?_ 29 _ rfl B 3 rfl P _ ?_ HUPUZ.out rfl HSZP.out
          · rfl
          · (intro w hSw; exact hSw.2.2.1)
        (try simp only [Act.put, List.setIfInBounds_toArray, List.set_cons_zero, List.set_cons_succ])
        refine wpAnyH_take (i := 29) (oi := ⟨some 243, _, _, _, _, _⟩) (v := ?_) rfl (by kernel_rfl) (by kernel_rfl) (by kernel_rfl) (fun _ _ _ h => False.elim h) (Or.inl ⟨by rfl, ?_⟩) (by assumption) ?_
        rotate_left
        · intro w hSw
          (try dsimp only at hSw)
          go_simp
          all_goals with_reducible rfl
        (try simp only [Act.put, List.setIfInBounds_toArray, List.set_cons_zero, List.set_cons_succ])
        refine wpAnyH_take (i := 30) (oi := ⟨some 244, _, _, _, _, _⟩) (v := .agg J.toArray) rfl (by kernel_rfl) (by kernel_rfl) (by kernel_rfl) (fun _ _ _ h => False.elim h) ?_ (by assumption) ?_
        · refine yieldsIf_load_mid ?_ 27 _ rfl B 37 rfl J _ ?_ HUSUM.out rfl HSZJ.out
          · rfl
          · (intro w hSw; exact hSw.2.2.2.1)
        (try simp only [Act.put, List.setIfInBounds_toArray, List.set_cons_zero, List.set_cons_succ])
        refine wpAnyH_ready (rs := [26]) (by kernel_rfl) (by simp) ?_
        refine AllReadyH.cons (o := ⟨some 240, _, _, _, _, _⟩) rfl (fun K hK => ?_) AllReadyH.nil
        go_simp
        (refine (HSOL.out _ HB8.out).mono ?_; rintro e w9 ⟨g9, m9, c9, rfl, r9, hB9⟩; have R9 := Lib.hid r9; clear r9; have HB9 := Lib.hid (HB8.out.trans (hB9.mono HB8.out.size)); have HK9 := Lib.hid (HK8.out.below hB9 HK8.out.lt); clear k0 k1 kp kj ks kc HK8; obtain ⟨k0, k1, -, kp, kj, ks, kc⟩ := HCELL.out w9 HK9.out; clear hB9)
        (try go_wp2_with fail)
        refine hK.out _ _ ?_ (fun hHeld => ?_)
        · ((try dsimp only); refine ⟨?_, ?_, ?_, ?_, ?_, ?_⟩ <;> (first | assumption | (go_keep; done)))
        clear hK K
        (try simp only [Act.put, List.setIfInBounds_toArray, List.set_cons_zero, List.set_cons_succ])
        refine wpAnyH_ready (rs := [31]) (by kernel_rfl) (by simp) ?_
        refine AllReadyH.cons (o := ⟨some 245, _, _, _, _, _⟩) rfl (fun K hK => ?_) AllReadyH.nil
        go_simp
        (refine (KSOL.out _ HB9.out).mono ?_; rintro e w10 ⟨g10, m10, c10, rfl, r10, hB10⟩; have Q10 := Lib.hid r10; have R10 := Lib.hid (R9.out.below hB10); clear r10 R9; have HB10 := Lib.hid (HB9.out.trans (hB10.mono HB9.out.size)); have HK10 := Lib.hid (HK9.out.below hB10 HK9.out.lt); clear k0 k1 kp kj ks kc HK9; obtain ⟨k0, k1, -, kp, kj, ks, kc⟩ := HCELL.out w10 HK10.out; clear hB10)
        (try go_wp2_with fail)
        refine hK.out _ _ ?_ (fun hHeld => ?_)
        · ((try dsimp only); refine ⟨?_, ?_, ?_, ?_, ?_, ?_⟩ <;> (first | assumption | (go_keep; done)))
        clear hK K
        (try simp only [Act.put, List.setIfInBounds_toArray, List.set_cons_zero, List.set_cons_succ])
        refine wpAnyH_ready (rs := [32]) (by kernel_rfl) (by simp) ?_
        refine AllReadyH.cons (o := ⟨some 246, _, _, _, _, _⟩) rfl (fun K hK => ?_) AllReadyH.nil
        go_simp
        (refine (same_yes R10.out Q10.out).mono ?_; rintro e w11 ⟨rfl, hB11⟩; clear R10 Q10; have HB11 := Lib.hid (HB10.out.trans (hB11.mono HB10.out.size)); have HK11 := Lib.hid (HK10.out.below hB11 HK10.out.lt); clear k0 k1 kp kj ks kc HK10; obtain ⟨k0, k1, -, kp, kj, ks, kc⟩ := HCELL.out w11 HK11.out; clear hB11)
        (try go_wp2_with fail)
        refine hK.out _ _ ?_ (fun hHeld => ?_)
        · ((try dsimp only); refine ⟨?_, ?_, ?_, ?_, ?_, ?_⟩ <;> (first | assumption | (go_keep; done)))
        clear hK K
        (try simp only [Act.put, List.setIfInBounds_toArray, List.set_cons_zero, List.set_cons_succ])
        as_aux_lemma =>
          refine wpAnyH_take (i := 33) (oi := ⟨some 247, _, _, _, _, _⟩) (v := ?_) rfl (by kernel_rfl) (by kernel_rfl) (by kernel_rfl) (fun _ _ _ h => False.elim h) (Or.inl ⟨by rfl, ?_⟩) (by assumption) ?_
          rotate_left
          · intro w hSw
            (try dsimp only at hSw)
            go_simp
            all_goals with_reducible rfl
          (try simp only [Act.put, List.setIfInBounds_toArray, List.set_cons_zero, List.set_cons_succ])
          refine wpAnyH_take (i := 34) (oi := ⟨some 248, _, _, _, _, _⟩) (v := ?_) rfl (by kernel_rfl) (by kernel_rfl) (by kernel_rfl) (fun _ _ _ h => False.elim h) (Or.inl ⟨by rfl, ?_⟩) (by assumption) ?_
          rotate_left
          · intro w hSw
            (try dsimp only at hSw)
            go_simp
            all_goals with_reducible rfl
          (try simp only [Act.put, List.setIfInBounds_toArray, List.set_cons_zero, List.set_cons_succ])
          refine wpAnyH_take (i := 35) (oi := ⟨some 249, _, _, _, _, _⟩) (v := ?_) rfl (by kernel_rfl) (by kernel_rfl) (by kernel_rfl) (fun _ _ _ h => False.elim h) (Or.inl ⟨by rfl, ?_⟩) (by assumption) ?_
          rotate_left
          · intro w hSw
            (try dsimp only at hSw)
            go_simp
            all_goals with_reducible rfl
          (try simp only [Act.put, List.setIfInBounds_toArray, List.set_cons_zero, List.set_cons_succ])
          refine wpAnyH_take (i := 36) (oi := ⟨some 250, _, _, _, _, _⟩) (v := .agg P.toArray) rfl (by kernel_rfl) (by kernel_rfl) (by kernel_rfl) (fun _ _ _ h => False.elim h) ?_ (by assumption) ?_
          · refine yieldsIf_load_mid ?_ 29 _ rfl B 3 rfl P _ ?_ HUPUZ.out rfl HSZP.out
            · rfl
            · (intro w hSw; exact hSw.2.2.1)
          (try simp only [Act.put, List.setIfInBounds_toArray, List.set_cons_zero, List.set_cons_succ])
          refine wpAnyH_take (i := 38) (oi := ⟨some 252, _, _, _, _, _⟩) (v := ?_) rfl (by kernel_rfl) (by kernel_rfl) (by kernel_rfl) (fun _ _ _ h => False.elim h) (Or.inl ⟨by rfl, ?_⟩) (by assumption) ?_
          rotate_left
          · intro w hSw
            (try dsimp only at hSw)
            go_simp
            all_goals with_reducible rfl
          (try simp only [Act.put, List.setIfInBounds_toArray, List.set_cons_zero, List.set_cons_succ])
          refine wpAnyH_take (i := 39) (oi := ⟨some 253, _, _, _, _, _⟩) (v := .agg P.toArray) rfl (by kernel_rfl) (by kernel_rfl) (by kernel_rfl) (fun _ _ _ h => False.elim h) ?_ (by assumption) ?_
          · refine yieldsIf_load_mid ?_ 29 _ rfl B 3 rfl P _ ?_ HUPUZ.out rfl HSZP.out
            · rfl
            · (intro w hSw; exact hSw.2.2.1)
          (try simp only [Act.put, List.setIfInBounds_toArray, List.set_cons_zero, List.set_cons_succ])
          refine wpAnyH_ready (rs := [37]) (by kernel_rfl) (by simp) ?_
          refine AllReadyH.cons (o := ⟨some 251, _, _, _, _, _⟩) rfl (fun K hK => ?_) AllReadyH.nil
          go_simp
          (refine (HPUZ.out _ HB11.out).mono ?_; rintro e w12 ⟨g12, m12, c12, rfl, r12, hB12⟩; have R12 := Lib.hid r12; clear r12; have HB12 := Lib.hid (HB11.out.trans (hB12.mono HB11.out.size)); have HK12 := Lib.hid (HK11.out.below hB12 HK11.out.lt); clear k0 k1 kp kj ks kc HK11; obtain ⟨k0, k1, -, kp, kj, ks, kc⟩ := HCELL.out w12 HK12.out; clear hB12)
          (try go_wp2_with fail)
          refine hK.out _ _ ?_ (fun hHeld => ?_)
          · ((try dsimp only); refine ⟨?_, ?_, ?_, ?_, ?_, ?_⟩ <;> (first | assumption | (go_keep; done)))
          clear hK K
          (try simp only [Act.put, List.setIfInBounds_toArray, List.set_cons_zero, List.set_cons_succ])
          refine wpAnyH_ready (rs := [40]) (by kernel_rfl) (by simp) ?_
          refine AllReadyH.cons (o := ⟨some 254, _, _, _, _, _⟩) rfl (fun K hK => ?_) AllReadyH.nil
          go_simp
          (refine (KPUZ.out _ HB12.out).mono ?_; rintro e w13 ⟨g13, m13, c13, rfl, r13, hB13⟩; have Q13 := Lib.hid r13; have R13 := Lib.hid (R12.out.below hB13); clear r13 R12; have HB13 := Lib.hid (HB12.out.trans (hB13.mono HB12.out.size)); have HK13 := Lib.hid (HK12.out.below hB13 HK12.out.lt); clear k0 k1 kp kj ks kc HK12; obtain ⟨k0, k1, -, kp, kj, ks, kc⟩ := HCELL.out w13 HK13.out; clear hB13)
          (try go_wp2_with fail)
          refine hK.out _ _ ?_ (fun hHeld => ?_)
          · ((try dsimp only); refine ⟨?_, ?_, ?_, ?_, ?_, ?_⟩ <;> (first | assumption | (go_keep; done)))
          clear hK K
          (try simp only [Act.put, List.setIfInBounds_toArray, List.set_cons_zero, List.set_cons_succ])
          refine wpAnyH_ready (rs := [41]) (by kernel_rfl) (by simp) ?_
          refine AllReadyH.cons (o := ⟨some 255, _, _, _, _, _⟩) rfl (fun K hK => ?_) AllReadyH.nil
          go_simp
          (refine (same_yes R13.out Q13.out).mono ?_; rintro e w14 ⟨rfl, hB14⟩; clear R13 Q13; have HB14 := Lib.hid (HB13.out.trans (hB14.mono HB13.out.size)); have HK14 := Lib.hid (HK13.out.below hB14 HK13.out.lt); clear k0 k1 kp kj ks kc HK13; obtain ⟨k0, k1, -, kp, kj, ks, kc⟩ := HCELL.out w14 HK14.out; clear hB14)
          (try go_wp2_with fail)
          refine hK.out _ _ ?_ (fun hHeld => ?_)
          · ((try dsimp only); refine ⟨?_, ?_, ?_, ?_, ?_, ?_⟩ <;> (first | assumption | (go_keep; done)))
          clear hK K
          (try simp only [Act.put, List.setIfInBounds_toArray, List.set_cons_zero, List.set_cons_succ])
          as_aux_lemma =>
            refine wpAnyH_take (i := 42) (oi := ⟨some 256, _, _, _, _, _⟩) (v := ?_) rfl (by kernel_rfl) (by kernel_rfl) (by kernel_rfl) (fun _ _ _ h => False.elim h) (Or.inl ⟨by rfl, ?_⟩) (by assumption) ?_
            rotate_left
            · intro w hSw
              (try dsimp only at hSw)
              go_simp
              all_goals with_reducible rfl
            (try simp only [Act.put, List.setIfInBounds_toArray, List.set_cons_zero, List.set_cons_succ])
            refine wpAnyH_take (i := 43) (oi := ⟨some 257, _, _, _, _, _⟩) (v := ?_) rfl (by kernel_rfl) (by kernel_rfl) (by kernel_rfl) (fun _ _ _ h => False.elim h) (Or.inl ⟨by rfl, ?_⟩) (by assumption) ?_
            rotate_left
            · intro w hSw
              (try dsimp only at hSw)
              go_simp
              all_goals with_reducible rfl
            (try simp only [Act.put, List.setIfInBounds_toArray, List.set_cons_zero, List.set_cons_succ])
            refine wpAnyH_take (i := 44) (oi := ⟨some 258, _, _, _, _, _⟩) (v := ?_) rfl (by kernel_rfl) (by kernel_rfl) (by kernel_rfl) (fun _ _ _ h => False.elim h) (Or.inl ⟨by rfl, ?_⟩) (by assumption) ?_
            rotate_left
            · intro w hSw
              (try dsimp only at hSw)
              go_simp
              all_goals with_reducible rfl
            (try simp only [Act.put, List.setIfInBounds_toArray, List.set_cons_zero, List.set_cons_succ])
            refine wpAnyH_take (i := 45) (oi := ⟨some 259, _, _, _, _, _⟩) (v := ?_) rfl (by kernel_rfl) (by kernel_rfl) (by kernel_rfl) (fun _ _ _ h => False.elim h) (Or.inl ⟨by rfl, ?_⟩) (by assumption) ?_
            rotate_left
            · intro w hSw
              (try dsimp only at hSw)
              go_simp
              all_goals with_reducible rfl
            (try simp only [Act.put, List.setIfInBounds_toArray, List.set_cons_zero, List.set_cons_succ])
            refine wpAnyH_take (i := 47) (oi := ⟨some 261, _, _, _, _, _⟩) (v := ?_) rfl (by kernel_rfl) (by kernel_rfl) (by kernel_rfl) (fun _ _ _ h => False.elim h) (Or.inl ⟨by rfl, ?_⟩) (by assumption) ?_
            rotate_left
            · intro w hSw
              (try dsimp only at hSw)
              go_simp
              all_goals with_reducible rfl
            (try simp only [Act.put, List.setIfInBounds_toArray, List.set_cons_zero, List.set_cons_succ])
            refine wpAnyH_take (i := 48) (oi := ⟨some 262, _, _, _, _, _⟩) (v := ?_) rfl (by kernel_rfl) (by kernel_rfl) (by kernel_rfl) (fun _ _ _ h => False.elim h) (Or.inl ⟨by rfl, ?_⟩) (by assumption) ?_
            rotate_left
            · intro w hSw
              (try dsimp only at hSw)
              go_simp
              all_goals with_reducible rfl
            (try simp only [Act.put, List.setIfInBounds_toArray, List.set_cons_zero, List.set_cons_succ])
            refine wpAnyH_ready (rs := [46]) (by kernel_rfl) (by simp) ?_
            refine AllReadyH.cons (o := ⟨some 260, _, _, _, _, _⟩) rfl (fun K hK => ?_) AllReadyH.nil
            go_simp
            (refine (HCOUNT.out _ HB14.out).mono ?_; rintro e w15 ⟨g15, m15, c15, rfl, r15, hB15⟩; have R15 := Lib.hid r15; clear r15; have HB15 := Lib.hid (HB14.out.trans (hB15.mono HB14.out.size)); have HK15 := Lib.hid (HK14.out.below hB15 HK14.out.lt); clear k0 k1 kp kj ks kc HK14; obtain ⟨k0, k1, -, kp, kj, ks, kc⟩ := HCELL.out w15 HK15.out; clear hB15)
            (try go_wp2_with fail)
            refine hK.out _ _ ?_ (fun hHeld => ?_)
            · ((try dsimp only); refine ⟨?_, ?_, ?_, ?_, ?_, ?_⟩ <;> (first | assumption | (go_keep; done)))
            clear hK K
            (try simp only [Act.put, List.setIfInBounds_toArray, List.set_cons_zero, List.set_cons_succ])
            refine wpAnyH_ready (rs := [49]) (by kernel_rfl) (by simp) ?_
            refine AllReadyH.cons (o := ⟨some 263, _, _, _, _, _⟩) rfl (fun K hK => ?_) AllReadyH.nil
            go_simp
            (refine (KCOUNT.out _ HB15.out).mono ?_; rintro e w16 ⟨g16, m16, c16, rfl, r16, hB16⟩; have Q16 := Lib.hid r16; have R16 := Lib.hid (R15.out.below hB16); clear r16 R15; have HB16 := Lib.hid (HB15.out.trans (hB16.mono HB15.out.size)); have HK16 := Lib.hid (HK15.out.below hB16 HK15.out.lt); clear k0 k1 kp kj ks kc HK15; obtain ⟨k0, k1, -, kp, kj, ks, kc⟩ := HCELL.out w16 HK16.out; clear hB16)
            (try go_wp2_with fail)
            refine hK.out _ _ ?_ (fun hHeld => ?_)
            · ((try dsimp only); refine ⟨?_, ?_, ?_, ?_, ?_, ?_⟩ <;> (first | assumption | (go_keep; done)))
            clear hK K
            (try simp only [Act.put, List.setIfInBounds_toArray, List.set_cons_zero, List.set_cons_succ])
            refine wpAnyH_ready (rs := [50]) (by kernel_rfl) (by simp) ?_
            refine AllReadyH.cons (o := ⟨some 264, _, _, _, _, _⟩) rfl (fun K hK => ?_) AllReadyH.nil
            go_simp
            (refine (same_yes R16.out Q16.out).mono ?_; rintro e w17 ⟨rfl, hB17⟩; clear R16 Q16; have HB17 := Lib.hid (HB16.out.trans (hB17.mono HB16.out.size)); have HK17 := Lib.hid (HK16.out.below hB17 HK16.out.lt); clear k0 k1 kp kj ks kc HK16; obtain ⟨k0, k1, -, kp, kj, ks, kc⟩ := HCELL.out w17 HK17.out; clear hB17)
            (try go_wp2_with fail)
            refine hK.out _ _ ?_ (fun hHeld => ?_)
            · ((try dsimp only); refine ⟨?_, ?_, ?_, ?_, ?_, ?_⟩ <;> (first | assumption | (go_keep; done)))
            clear hK K
            (try simp only [Act.put, List.setIfInBounds_toArray, List.set_cons_zero, List.set_cons_succ])
            as_aux_lemma =>
              refine wpAnyH_take (i := 51) (oi := ⟨some 265, _, _, _, _, _⟩) (v := ?_) rfl (by kernel_rfl) (by kernel_rfl) (by kernel_rfl) (fun _ _ _ h => False.elim h) (Or.inl ⟨by rfl, ?_⟩) (by assumption) ?_
              rotate_left
              · intro w hSw
                (try dsimp only at hSw)
                go_simp
                all_goals with_reducible rfl
              (try simp only [Act.put, List.setIfInBounds_toArray, List.set_cons_zero, List.set_cons_succ])
              refine wpAnyH_take (i := 52) (oi := ⟨some 266, _, _, _, _, _⟩) (v := ?_) rfl (by kernel_rfl) (by kernel_rfl) (by kernel_rfl) (fun _ _ _ h => False.elim h) (Or.inl ⟨by rfl, ?_⟩) (by assumption) ?_
              rotate_left
              · intro w hSw
                (try dsimp only at hSw)
                go_simp
                all_goals with_reducible rfl
              (try simp only [Act.put, List.setIfInBounds_toArray, List.set_cons_zero, List.set_cons_succ])
              refine wpAnyH_take (i := 53) (oi := ⟨some 267, _, _, _, _, _⟩) (v := ?_) rfl (by kernel_rfl) (by kernel_rfl) (by kernel_rfl) (fun _ _ _ h => False.elim h) (Or.inl ⟨by rfl, ?_⟩) (by assumption) ?_
              rotate_left
              · intro w hSw
                (try dsimp only at hSw)
                go_simp
                all_goals with_reducible rfl
              (try simp only [Act.put, List.setIfInBounds_toArray, List.set_cons_zero, List.set_cons_succ])
              refine wpAnyH_take (i := 54) (oi := ⟨some 268, _, _, _, _, _⟩) (v := ?_) rfl (by kernel_rfl) (by kernel_rfl) (by kernel_rfl) (fun _ _ _ h => False.elim h) (Or.inl ⟨by rfl, ?_⟩) (by assumption) ?_
              rotate_left
              · intro w hSw
                (try dsimp only at hSw)
                go_simp
                all_goals with_reducible rfl
              (try simp only [Act.put, List.setIfInBounds_toArray, List.set_cons_zero, List.set_cons_succ])
              refine wpAnyH_take (i := 55) (oi := ⟨some 269, _, _, _, _, _⟩) (v := .agg C.toArray) rfl (by kernel_rfl) (by kernel_rfl) (by kernel_rfl) (fun _ _ _ h => False.elim h) ?_ (by assumption) ?_
              · refine yieldsIf_load_mid ?_ 31 _ rfl B 69 rfl C _ ?_ HUNUM.out rfl HSZC.out
                · rfl
                · (intro w hSw; exact hSw.2.2.2.2.2)
              (try simp only [Act.put, List.setIfInBounds_toArray, List.set_cons_zero, List.set_cons_succ])
              refine wpAnyH_take (i := 57) (oi := ⟨some 271, _, _, _, _, _⟩) (v := ?_) rfl (by kernel_rfl) (by kernel_rfl) (by kernel_rfl) (fun _ _ _ h => False.elim h) (Or.inl ⟨by rfl, ?_⟩) (by assumption) ?_
              rotate_left
              · intro w hSw
                (try dsimp only at hSw)
                go_simp
                all_goals with_reducible rfl
              (try simp only [Act.put, List.setIfInBounds_toArray, List.set_cons_zero, List.set_cons_succ])
              refine wpAnyH_take (i := 58) (oi := ⟨some 272, _, _, _, _, _⟩) (v := ?_) rfl (by kernel_rfl) (by kernel_rfl) (by kernel_rfl) (fun _ _ _ h => False.elim h) (Or.inl ⟨by rfl, ?_⟩) (by assumption) ?_
              rotate_left
              · intro w hSw
                (try dsimp only at hSw)
                go_simp
                all_goals with_reducible rfl
              (try simp only [Act.put, List.setIfInBounds_toArray, List.set_cons_zero, List.set_cons_succ])
              refine wpAnyH_take (i := 59) (oi := ⟨some 273, _, _, _, _, _⟩) (v := .agg C.toArray) rfl (by kernel_rfl) (by kernel_rfl) (by kernel_rfl) (fun _ _ _ h => False.elim h) ?_ (by assumption) ?_
              · refine yieldsIf_load_mid ?_ 31 _ rfl B 69 rfl C _ ?_ HUNUM.out rfl HSZC.out
                · rfl
                · (intro w hSw; exact hSw.2.2.2.2.2)
              (try simp only [Act.put, List.setIfInBounds_toArray, List.set_cons_zero, List.set_cons_succ])
              refine wpAnyH_ready (rs := [56]) (by kernel_rfl) (by simp) ?_
              refine AllReadyH.cons (o := ⟨some 270, _, _, _, _, _⟩) rfl (fun K hK => ?_) AllReadyH.nil
              go_simp
              (refine (HLONG.out _ HB17.out).mono ?_; rintro e w18 ⟨g18, m18, c18, rfl, r18, hB18⟩; have R18 := Lib.hid r18; clear r18; have HB18 := Lib.hid (HB17.out.trans (hB18.mono HB17.out.size)); have HK18 := Lib.hid (HK17.out.below hB18 HK17.out.lt); clear k0 k1 kp kj ks kc HK17; obtain ⟨k0, k1, -, kp, kj, ks, kc⟩ := HCELL.out w18 HK18.out; clear hB18)
              (try go_wp2_with fail)
              refine hK.out _ _ ?_ (fun hHeld => ?_)
              · ((try dsimp only); refine ⟨?_, ?_, ?_, ?_, ?_, ?_⟩ <;> (first | assumption | (go_keep; done)))
              clear hK K
              (try simp only [Act.put, List.setIfInBounds_toArray, List.set_cons_zero, List.set_cons_succ])
              refine wpAnyH_ready (rs := [60]) (by kernel_rfl) (by simp) ?_
              refine AllReadyH.cons (o := ⟨some 274, _, _, _, _, _⟩) rfl (fun K hK => ?_) AllReadyH.nil
              go_simp
              (refine (KLONG.out _ HB18.out).mono ?_; rintro e w19 ⟨g19, m19, c19, rfl, r19, hB19⟩; have Q19 := Lib.hid r19; have R19 := Lib.hid (R18.out.below hB19); clear r19 R18; have HB19 := Lib.hid (HB18.out.trans (hB19.mono HB18.out.size)); have HK19 := Lib.hid (HK18.out.below hB19 HK18.out.lt); clear k0 k1 kp kj ks kc HK18; obtain ⟨k0, k1, -, kp, kj, ks, kc⟩ := HCELL.out w19 HK19.out; clear hB19)
              (try go_wp2_with fail)
              refine hK.out _ _ ?_ (fun hHeld => ?_)
              · ((try dsimp only); refine ⟨?_, ?_, ?_, ?_, ?_, ?_⟩ <;> (first | assumption | (go_keep; done)))
              clear hK K
              (try simp only [Act.put, List.setIfInBounds_toArray, List.set_cons_zero, List.set_cons_succ])
              refine wpAnyH_ready (rs := [61]) (by kernel_rfl) (by simp) ?_
              refine AllReadyH.cons (o := ⟨some 275, _, _, _, _, _⟩) rfl (fun K hK => ?_) AllReadyH.nil
              go_simp
              (refine (same_yes R19.out Q19.out).mono ?_; rintro e w20 ⟨rfl, hB20⟩; clear R19 Q19; have HB20 := Lib.hid (HB19.out.trans (hB20.mono HB19.out.size)); have HK20 := Lib.hid (HK19.out.below hB20 HK19.out.lt); clear k0 k1 kp kj ks kc HK19; obtain ⟨k0, k1, -, kp, kj, ks, kc⟩ := HCELL.out w20 HK20.out; clear hB20)
              (try go_wp2_with fail)
              refine hK.out _ _ ?_ (fun hHeld => ?_)
              · ((try dsimp only); refine ⟨?_, ?_, ?_, ?_, ?_, ?_⟩ <;> (first | assumption | (go_keep; done)))
              clear hK K
              (try simp only [Act.put, List.setIfInBounds_toArray, List.set_cons_zero, List.set_cons_succ])
              as_aux_lemma =>
                refine wpAnyH_take (i := 62) (oi := ⟨some 276, _, _, _, _, _⟩) (v := ?_) rfl (by kernel_rfl) (by kernel_rfl) (by kernel_rfl) (fun _ _ _ h => False.elim h) (Or.inl ⟨by rfl, ?_⟩) (by assumption) ?_
                rotate_left
                · intro w hSw
                  (try dsimp only at hSw)
                  go_simp
                  all_goals with_reducible rfl
                (try simp only [Act.put, List.setIfInBounds_toArray, List.set_cons_zero, List.set_cons_succ])
                refine wpAnyH_take (i := 63) (oi := ⟨some 277, _, _, _, _, _⟩) (v := ?_) rfl (by kernel_rfl) (by kernel_rfl) (by kernel_rfl) (fun _ _ _ h => False.elim h) (Or.inl ⟨by rfl, ?_⟩) (by assumption) ?_
                rotate_left
                · intro w hSw
                  (try dsimp only at hSw)
                  go_simp
                  all_goals with_reducible rfl
                (try simp only [Act.put, List.setIfInBounds_toArray, List.set_cons_zero, List.set_cons_succ])
                refine wpAnyH_take (i := 64) (oi := ⟨some 278, _, _, _, _, _⟩) (v := ?_) rfl (by kernel_rfl) (by kernel_rfl) (by kernel_rfl) (fun _ _ _ h => False.elim h) (Or.inl ⟨by rfl, ?_⟩) (by assumption) ?_
                rotate_left
                · intro w hSw
                  (try dsimp only at hSw)
                  go_simp
                  all_goals with_reducible rfl
                (try simp only [Act.put, List.setIfInBounds_toArray, List.set_cons_zero, List.set_cons_succ])
                refine wpAnyH_take (i := 65) (oi := ⟨some 279, _, _, _, _, _⟩) (v := .agg J.toArray) rfl (by kernel_rfl) (by kernel_rfl) (by kernel_rfl) (fun _ _ _ h => False.elim h) ?_ (by assumption) ?_
                · refine yieldsIf_load_mid ?_ 27 _ rfl B 37 rfl J _ ?_ HUSUM.out rfl HSZJ.out
                  · rfl
                  · (intro w hSw; exact hSw.2.2.2.1)
                (try simp only [Act.put, List.setIfInBounds_toArray, List.set_cons_zero, List.set_cons_succ])
                refine wpAnyH_take (i := 67) (oi := ⟨some 281, _, _, _, _, _⟩) (v := ?_) rfl (by kernel_rfl) (by kernel_rfl) (by kernel_rfl) (fun _ _ _ h => False.elim h) (Or.inl ⟨by rfl, ?_⟩) (by assumption) ?_
                rotate_left
                · intro w hSw
                  (try dsimp only at hSw)
                  go_simp
                  all_goals with_reducible rfl
                (try simp only [Act.put, List.setIfInBounds_toArray, List.set_cons_zero, List.set_cons_succ])
                refine wpAnyH_take (i := 68) (oi := ⟨some 282, _, _, _, _, _⟩) (v := .agg J.toArray) rfl (by kernel_rfl) (by kernel_rfl) (by kernel_rfl) (fun _ _ _ h => False.elim h) ?_ (by assumption) ?_
                · refine yieldsIf_load_mid ?_ 27 _ rfl B 37 rfl J _ ?_ HUSUM.out rfl HSZJ.out
                  · rfl
                  · (intro w hSw; exact hSw.2.2.2.1)
                (try simp only [Act.put, List.setIfInBounds_toArray, List.set_cons_zero, List.set_cons_succ])
                refine wpAnyH_ready (rs := [66]) (by kernel_rfl) (by simp) ?_
                refine AllReadyH.cons (o := ⟨some 280, _, _, _, _, _⟩) rfl (fun K hK => ?_) AllReadyH.nil
                go_simp
                (refine (HSUM.out _ HB20.out).mono ?_; rintro e w21 ⟨g21, m21, c21, rfl, r21, hB21⟩; have R21 := Lib.hid r21; clear r21; have HB21 := Lib.hid (HB20.out.trans (hB21.mono HB20.out.size)); have HK21 := Lib.hid (HK20.out.below hB21 HK20.out.lt); clear k0 k1 kp kj ks kc HK20; obtain ⟨k0, k1, -, kp, kj, ks, kc⟩ := HCELL.out w21 HK21.out; clear hB21)
                (try go_wp2_with fail)
                refine hK.out _ _ ?_ (fun hHeld => ?_)
                · ((try dsimp only); refine ⟨?_, ?_, ?_, ?_, ?_, ?_⟩ <;> (first | assumption | (go_keep; done)))
                clear hK K
                (try simp only [Act.put, List.setIfInBounds_toArray, List.set_cons_zero, List.set_cons_succ])
                refine wpAnyH_ready (rs := [69]) (by kernel_rfl) (by simp) ?_
                refine AllReadyH.cons (o := ⟨some 283, _, _, _, _, _⟩) rfl (fun K hK => ?_) AllReadyH.nil
                go_simp
                (refine (KSUM.out _ HB21.out).mono ?_; rintro e w22 ⟨g22, m22, c22, rfl, r22, hB22⟩; have Q22 := Lib.hid r22; have R22 := Lib.hid (R21.out.below hB22); clear r22 R21; have HB22 := Lib.hid (HB21.out.trans (hB22.mono HB21.out.size)); have HK22 := Lib.hid (HK21.out.below hB22 HK21.out.lt); clear k0 k1 kp kj ks kc HK21; obtain ⟨k0, k1, -, kp, kj, ks, kc⟩ := HCELL.out w22 HK22.out; clear hB22)
                (try go_wp2_with fail)
                refine hK.out _ _ ?_ (fun hHeld => ?_)
                · ((try dsimp only); refine ⟨?_, ?_, ?_, ?_, ?_, ?_⟩ <;> (first | assumption | (go_keep; done)))
                clear hK K
                (try simp only [Act.put, List.setIfInBounds_toArray, List.set_cons_zero, List.set_cons_succ])
                refine wpAnyH_ready (rs := [70]) (by kernel_rfl) (by simp) ?_
                refine AllReadyH.cons (o := ⟨some 284, _, _, _, _, _⟩) rfl (fun K hK => ?_) AllReadyH.nil
                go_simp
                (refine (same_yes R22.out Q22.out).mono ?_; rintro e w23 ⟨rfl, hB23⟩; clear R22 Q22; have HB23 := Lib.hid (HB22.out.trans (hB23.mono HB22.out.size)); have HK23 := Lib.hid (HK22.out.below hB23 HK22.out.lt); clear k0 k1 kp kj ks kc HK22; obtain ⟨k0, k1, -, kp, kj, ks, kc⟩ := HCELL.out w23 HK23.out; clear hB23)
                (try go_wp2_with fail)
                refine hK.out _ _ ?_ (fun hHeld => ?_)
                · ((try dsimp only); refine ⟨?_, ?_, ?_, ?_, ?_, ?_⟩ <;> (first | assumption | (go_keep; done)))
                clear hK K
                (try simp only [Act.put, List.setIfInBounds_toArray, List.set_cons_zero, List.set_cons_succ])
                as_aux_lemma =>
                  refine wpAnyH_take (i := 71) (oi := ⟨some 285, _, _, _, _, _⟩) (v := ?_) rfl (by kernel_rfl) (by kernel_rfl) (by kernel_rfl) (fun _ _ _ h => False.elim h) (Or.inl ⟨by rfl, ?_⟩) (by assumption) ?_
                  rotate_left
                  · intro w hSw
                    (try dsimp only at hSw)
                    go_simp
                    all_goals with_reducible rfl
                  (try simp only [Act.put, List.setIfInBounds_toArray, List.set_cons_zero, List.set_cons_succ])
                  refine wpAnyH_take (i := 72) (oi := ⟨some 286, _, _, _, _, _⟩) (v := ?_) rfl (by kernel_rfl) (by kernel_rfl) (by kernel_rfl) (fun _ _ _ h => False.elim h) (Or.inl ⟨by rfl, ?_⟩) (by assumption) ?_
                  rotate_left
                  · intro w hSw
                    (try dsimp only at hSw)
                    go_simp
                    all_goals with_reducible rfl
                  (try simp only [Act.put, List.setIfInBounds_toArray, List.set_cons_zero, List.set_cons_succ])
                  refine wpAnyH_take (i := 73) (oi := ⟨some 287, _, _, _, _, _⟩) (v := ?_) rfl (by kernel_rfl) (by kernel_rfl) (by kernel_rfl) (fun _ _ _ h => False.elim h) (Or.inl ⟨by rfl, ?_⟩) (by assumption) ?_
                  rotate_left
                  · intro w hSw
                    (try dsimp only at hSw)
                    go_simp
                    all_goals with_reducible rfl
                  (try simp only [Act.put, List.setIfInBounds_toArray, List.set_cons_zero, List.set_cons_succ])
                  refine wpAnyH_take (i := 74) (oi := ⟨some 288, _, _, _, _, _⟩) (v := .agg S.toArray) rfl (by kernel_rfl) (by kernel_rfl) (by kernel_rfl) (fun _ _ _ h => False.elim h) ?_ (by assumption) ?_
                  · refine yieldsIf_load_mid ?_ 33 _ rfl B 69 rfl S _ ?_ HUSIG.out rfl HSZS.out
                    · rfl
                    · (intro w hSw; exact hSw.2.2.2.2.1)
                  (try simp only [Act.put, List.setIfInBounds_toArray, List.set_cons_zero, List.set_cons_succ])
                  refine wpAnyH_take (i := 76) (oi := ⟨some 290, _, _, _, _, _⟩) (v := ?_) rfl (by kernel_rfl) (by kernel_rfl) (by kernel_rfl) (fun _ _ _ h => False.elim h) (Or.inl ⟨by rfl, ?_⟩) (by assumption) ?_
                  rotate_left
                  · intro w hSw
                    (try dsimp only at hSw)
                    go_simp
                    all_goals with_reducible rfl
                  (try simp only [Act.put, List.setIfInBounds_toArray, List.set_cons_zero, List.set_cons_succ])
                  refine wpAnyH_take (i := 77) (oi := ⟨some 291, _, _, _, _, _⟩) (v := .agg S.toArray) rfl (by kernel_rfl) (by kernel_rfl) (by kernel_rfl) (fun _ _ _ h => False.elim h) ?_ (by assumption) ?_
                  · refine yieldsIf_load_mid ?_ 33 _ rfl B 69 rfl S _ ?_ HUSIG.out rfl HSZS.out
                    · rfl
                    · (intro w hSw; exact hSw.2.2.2.2.1)
                  (try simp only [Act.put, List.setIfInBounds_toArray, List.set_cons_zero, List.set_cons_succ])
                  refine wpAnyH_ready (rs := [75]) (by kernel_rfl) (by simp) ?_
                  refine AllReadyH.cons (o := ⟨some 289, _, _, _, _, _⟩) rfl (fun K hK => ?_) AllReadyH.nil
                  go_simp
                  (refine (HSIG.out _ HB23.out).mono ?_; rintro e w24 ⟨g24, m24, c24, rfl, r24, hB24⟩; have R24 := Lib.hid r24; clear r24; have HB24 := Lib.hid (HB23.out.trans (hB24.mono HB23.out.size)); have HK24 := Lib.hid (HK23.out.below hB24 HK23.out.lt); clear k0 k1 kp kj ks kc HK23; obtain ⟨k0, k1, -, kp, kj, ks, kc⟩ := HCELL.out w24 HK24.out; clear hB24)
                  (try go_wp2_with fail)
                  refine hK.out _ _ ?_ (fun hHeld => ?_)
                  · ((try dsimp only); refine ⟨?_, ?_, ?_, ?_, ?_, ?_⟩ <;> (first | assumption | (go_keep; done)))
                  clear hK K
                  (try simp only [Act.put, List.setIfInBounds_toArray, List.set_cons_zero, List.set_cons_succ])
                  refine wpAnyH_ready (rs := [78]) (by kernel_rfl) (by simp) ?_
                  refine AllReadyH.cons (o := ⟨some 292, _, _, _, _, _⟩) rfl (fun K hK => ?_) AllReadyH.nil
                  go_simp
                  (refine (KSIG.out _ HB24.out).mono ?_; rintro e w25 ⟨g25, m25, c25, rfl, r25, hB25⟩; have Q25 := Lib.hid r25; have R25 := Lib.hid (R24.out.below hB25); clear r25 R24; have HB25 := Lib.hid (HB24.out.trans (hB25.mono HB24.out.size)); have HK25 := Lib.hid (HK24.out.below hB25 HK24.out.lt); clear k0 k1 kp kj ks kc HK24; obtain ⟨k0, k1, -, kp, kj, ks, kc⟩ := HCELL.out w25 HK25.out; clear hB25)
                  (try go_wp2_with fail)
                  refine hK.out _ _ ?_ (fun hHeld => ?_)
                  · ((try dsimp only); refine ⟨?_, ?_, ?_, ?_, ?_, ?_⟩ <;> (first | assumption | (go_keep; done)))
                  clear hK K
                  (try simp only [Act.put, List.setIfInBounds_toArray, List.set_cons_zero, List.set_cons_succ])
                  refine wpAnyH_ready (rs := [79]) (by kernel_rfl) (by simp) ?_
                  refine AllReadyH.cons (o := ⟨some 293, _, _, _, _, _⟩) rfl (fun K hK => ?_) AllReadyH.nil
                  go_simp
                  (refine (same_yes R25.out Q25.out).mono ?_; rintro e w26 ⟨rfl, hB26⟩; clear R25 Q25; have HB26 := Lib.hid (HB25.out.trans (hB26.mono HB25.out.size)); have HK26 := Lib.hid (HK25.out.below hB26 HK25.out.lt); clear k0 k1 kp kj ks kc HK25; obtain ⟨k0, k1, -, kp, kj, ks, kc⟩ := HCELL.out w26 HK26.out; clear hB26)
                  (try go_wp2_with fail)
                  refine hK.out _ _ ?_ (fun hHeld => ?_)
                  · ((try dsimp only); refine ⟨?_, ?_, ?_, ?_, ?_, ?_⟩ <;> (first | assumption | (go_keep; done)))
                  clear hK K
                  (try simp only [Act.put, List.setIfInBounds_toArray, List.set_cons_zero, List.set_cons_succ])
                  as_aux_lemma =>
                    refine wpAnyH_take (i := 80) (oi := ⟨some 294, _, _, _, _, _⟩) (v := ?_) rfl (by kernel_rfl) (by kernel_rfl) (by kernel_rfl) (fun _ _ _ h => False.elim h) (Or.inl ⟨by rfl, ?_⟩) (by assumption) ?_
                    rotate_left
                    · intro w hSw
                      (try dsimp only at hSw)
                      go_simp
                      all_goals with_reducible rfl
                    (try simp only [Act.put, List.setIfInBounds_toArray, List.set_cons_zero, List.set_cons_succ])
                    refine wpAnyH_take (i := 81) (oi := ⟨some 295, _, _, _, _, _⟩) (v := ?_) rfl (by kernel_rfl) (by kernel_rfl) (by kernel_rfl) (fun _ _ _ h => False.elim h) (Or.inl ⟨by rfl, ?_⟩) (by assumption) ?_
                    rotate_left
                    · intro w hSw
                      (try dsimp only at hSw)
                      go_simp
                      all_goals with_reducible rfl
                    (try simp only [Act.put, List.setIfInBounds_toArray, List.set_cons_zero, List.set_cons_succ])
                    refine wpAnyH_ready (rs := [82]) (by kernel_rfl) (by simp) ?_
                    refine AllReadyH.cons (o := ⟨some 296, _, _, _, _, _⟩) rfl (fun K hK => ?_) AllReadyH.nil
                    go_simp
                    (refine (lives_true _).mono ?_; rintro e w27 ⟨rfl, hB27⟩; have HB27 := Lib.hid (HB26.out.trans (hB27.mono HB26.out.size)); have HK27 := Lib.hid (HK26.out.below hB27 HK26.out.lt); clear k0 k1 kp kj ks kc HK26; obtain ⟨k0, k1, -, kp, kj, ks, kc⟩ := HCELL.out w27 HK27.out; clear hB27)
                    (try go_wp2_with fail)
                    refine hK.out _ _ ?_ (fun hHeld => ?_)
                    · ((try dsimp only); refine ⟨?_, ?_, ?_, ?_, ?_, ?_⟩ <;> (first | assumption | (go_keep; done)))
                    clear hK K
                    (try simp only [Act.put, List.setIfInBounds_toArray, List.set_cons_zero, List.set_cons_succ])
                    refine wpAnyH_take (i := 83) (oi := ⟨some 297, _, _, _, _, _⟩) (v := ?_) rfl (by kernel_rfl) (by kernel_rfl) (by kernel_rfl) (fun _ _ _ h => False.elim h) (Or.inl ⟨by rfl, ?_⟩) (by assumption) ?_
                    rotate_left
                    · intro w hSw
                      (try dsimp only at hSw)
                      go_simp
                      all_goals with_reducible rfl
                    (try simp only [Act.put, List.setIfInBounds_toArray, List.set_cons_zero, List.set_cons_succ])
                    refine wpAnyH_take (i := 84) (oi := ⟨some 4, _, _, _, _, _⟩) (v := ?_) rfl (by kernel_rfl) (by kernel_rfl) (by kernel_rfl) (fun _ _ _ h => False.elim h) (Or.inl ⟨by rfl, ?_⟩) (by assumption) ?_
                    rotate_left
                    · intro w hSw
                      (try dsimp only at hSw)
                      go_simp
                      all_goals with_reducible rfl
                    (try simp only [Act.put, List.setIfInBounds_toArray, List.set_cons_zero, List.set_cons_succ])
                    refine wpAnyH_done (by kernel_rfl) ?_ _
                    refine NoPanic.normal ?_
                    go_wp2_with fail
                    go_ret
                    exact ⟨rfl, HB27.out⟩
end Go.Proofs.YtgecfcdafbedaaaGreat
