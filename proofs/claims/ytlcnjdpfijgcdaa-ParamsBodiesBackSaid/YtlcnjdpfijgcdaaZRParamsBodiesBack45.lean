/- The first test of the law ParamsBodiesBack. (Printed by wip/mkbb.py.). -/
import Derived.Test.YtlcnjdpfijgcdaaZRParamsBodiesBack44
namespace Go.Proofs.Ytlcnjdpfijgcdaa
open Go.RowKit
set_option linter.unusedSimpArgs false
set_option linter.unusedVariables false

noncomputable def bodSix : Code := (Try.f3.body.bind (atRegion 6)).getD .skip
set_option maxRecDepth 100000 in
set_option maxHeartbeats 16000000 in
theorem bback_six {K K0 : Act → World → Prop} {u0 u2 u14 u15 u16 u17 u18 u19 u20 u21 u22 u23 u24 u25 u26 u27 u28 u29 u30 u31 u32 u33 u34 u35 u36 u37 u38 u39 u40 u41 u42 u43 u44 u45 u46 u47 u48 u49 u50 u51 u52 u53 u54 u55 u56 u57 u58 u59 u60 u61 u62 u63 u64 u65 u66 u67 u68 u69 u70 u71 u72 u73 u74 u75 u76 u77 u78 u79 u80 u81 u82 u83 u84 u85 u86 u87 u88 u89 u90 u91 u92 u93 u94 u95 u96 u97 u98 u99 u100 u101 u102 u103 u104 u105 u106 u107 u108 u109 u110 u111 u112 u113 u114 u115 u116 u117 u118 u119 u120 u121 u122 u123 u124 u125 u126 u127 u128 u129 u130 u131 u132 u133 u134 u135 u136 u137 u138 u139 u140 u141 u142 u143 u144 u145 u146 u147 u148 u149 u150 u151 u152 u153 u154 u155 u156 u157 u158 u159 u160 u161 u162 u163 u164 u165 u166 u167 u168 u169 u170 u171 u172 u173 u174 u175 u176 u177 u178 u179 u180 u181 u182 u183 u184 u185 u186 u187 u188 u189 u190 u191 u192 u193 u194 u195 u196 u197 u198 u199 u200 u201 u202 u203 u204 u205 u206 u207 u208 u209 u210 : Value} {w w1 : World} {B n c : Nat} {A : Option Addr} {xs : List Int} {CS P J C S : List Value} {x y u : Int} {pb sb : List Int} {T8 T10 T12 : Nat}
    (hK : ∀ a W, Code.wp Try.prog (seqB bodSix) (Exit.then K0 (bodyPost Try.prog Try.f3 fun e w' => e = .returned (.bool true) ∧ Below w.heap.size w w')) a W → K a W) (hK0 : ∀ a W, Code.wp Try.prog bodMid (bodyPost Try.prog Try.f3 fun e w' => e = .returned (.bool true) ∧ Below w.heap.size w w') a W → K0 a W)
    (hB : Below w.heap.size w w1) (hk : Blk w1 B 34 CS) (h2 : CS[2]? = some (.slice A n c)) (hr : Rd w .u32 A n xs) (hnc : n ≤ c) (hn : n ≤ 35184372087808)
    (hcell : ∀ W, Blk W B 34 CS → W.cell? ⟨B, 0, none⟩ = some (.int .u32 x) ∧ W.cell? ⟨B, 1, none⟩ = some (.int .u32 y) ∧ W.cell? ⟨B, 2, none⟩ = some (.slice A n c) ∧ W.cell? ⟨B, 3, none⟩ = some (.int .u8 u) ∧ W.rangeAt B 3 P ∧ W.rangeAt B 37 J ∧ W.rangeAt B 69 S ∧ W.rangeAt B 69 C) (hP : P.length = 34) (hJ : J.length = 32) (hC : C.length = 4) (hS : S.length = 8) (hP1 : ∀ v ∈ P, v.oneCell' = true) (hJ1 : ∀ v ∈ J, v.oneCell' = true) (hC1 : ∀ v ∈ C, v.oneCell' = true) (hS1 : ∀ v ∈ S, v.oneCell' = true) (hpp : ∀ W, Calls Try.prog 16 #[.agg P.toArray] W (NewRd W 41 pb)) (hpg : ∀ g cc W, Rd W .u8 (some ⟨g, 0, none⟩) 41 pb → 41 ≤ cc → Calls Try.prog 15 #[.slice (some ⟨g, 0, none⟩) 41 cc] W fun e w' => ∃ Z E, e = .returned (.tuple #[.agg Z.toArray, .int .i64 E]) ∧ PuzT u P Z E ∧ Below W.heap.size W w') (hop : ∀ W, Calls Try.prog 18 #[.agg P.toArray, .agg J.toArray] W (NewRd W 73 sb)) (hog : ∀ g cc W, Rd W .u8 (some ⟨g, 0, none⟩) 73 sb → 73 ≤ cc → Calls Try.prog 17 #[.slice (some ⟨g, 0, none⟩) 73 cc] W fun e w' => ∃ Z Y E, e = .returned (.tuple #[.agg Z.toArray, .agg Y.toArray, .int .i64 E]) ∧ SolT u P J Z Y E ∧ Below W.heap.size W w') (hej : ∀ W, Sem.run Try.prog (Op.equalIn 10000 26 (.agg J.toArray) (.agg J.toArray)) W = .ok true W) (hep : ∀ W, Sem.run Try.prog (Op.equalIn 10000 28 (.agg P.toArray) (.agg P.toArray)) W = .ok true W) (hec : ∀ W, Sem.run Try.prog (Op.equalIn 10000 30 (.agg C.toArray) (.agg C.toArray)) W = .ok true W) (hes : ∀ W, Sem.run Try.prog (Op.equalIn 10000 32 (.agg S.toArray) (.agg S.toArray)) W = .ok true W) (ht8 : Blk w1 T8 30 C) (ht10 : Blk w1 T10 26 J) (ht12 : Blk w1 T12 32 S) :
    Code.wp Try.prog (seqA bodSix) (Exit.then K (Exit.then K0 (bodyPost Try.prog Try.f3 fun e w' => e = .returned (.bool true) ∧ Below w.heap.size w w'))) ⟨#[u0, .pointer (some ⟨B, 0, none⟩), u2, .int .u32 x, .int .u32 y, .int .i64 0, .int .u32 x, .int .i64 0, .pointer (some ⟨T8, 0, none⟩), .int .i64 0, .pointer (some ⟨T10, 0, none⟩), .int .i64 0, .pointer (some ⟨T12, 0, none⟩), .int .i64 0, u14, u15, u16, u17, u18, u19, u20, u21, u22, u23, u24, u25, u26, u27, u28, u29, u30, u31, u32, u33, u34, u35, u36, u37, u38, u39, u40, u41, u42, u43, u44, u45, u46, u47, u48, u49, u50, u51, u52, u53, u54, u55, u56, u57, u58, u59, u60, u61, u62, u63, u64, u65, u66, u67, u68, u69, u70, u71, u72, u73, u74, u75, u76, u77, u78, u79, u80, u81, u82, u83, u84, u85, u86, u87, u88, u89, u90, u91, u92, u93, u94, u95, u96, u97, u98, u99, u100, u101, u102, u103, u104, u105, u106, u107, u108, u109, u110, u111, u112, u113, u114, u115, u116, u117, u118, u119, u120, u121, u122, u123, u124, u125, u126, u127, u128, u129, u130, u131, u132, u133, u134, u135, u136, u137, u138, u139, u140, u141, u142, u143, u144, u145, u146, u147, u148, u149, u150, u151, u152, u153, u154, u155, u156, u157, u158, u159, u160, u161, u162, u163, u164, u165, u166, u167, u168, u169, u170, u171, u172, u173, u174, u175, u176, u177, u178, u179, u180, u181, u182, u183, u184, u185, u186, u187, u188, u189, u190, u191, u192, u193, u194, u195, u196, u197, u198, u199, u200, u201, u202, u203, u204, u205, u206, u207, u208, u209, u210], []⟩ w1 := by
  obtain ⟨rest0, hrest0⟩ : ∃ r, r = bodMid := ⟨_, rfl⟩
  rw [← hrest0] at hK0
  conv at hrest0 => rhs; whnf
  subst hrest0
  obtain ⟨rest, hrest⟩ : ∃ r, r = seqB bodSix := ⟨_, rfl⟩
  rw [← hrest] at hK
  conv at hrest => rhs; whnf
  subst hrest
  conv => arg 2; whnf
  have HMID := Lib.hid (fun (P1 : Prop) => And.intro hP (And.intro hJ (And.intro hC hS)))
  have HSZC : Hid ((Try.prog.info? 30).map (·.size) = some C.length) := Lib.hid (by rw [hC]; exact size_num)
  have HSZJ : Hid ((Try.prog.info? 26).map (·.size) = some J.length) := Lib.hid (by rw [hJ]; exact size_sum)
  have HSZS : Hid ((Try.prog.info? 32).map (·.size) = some S.length) := Lib.hid (by rw [hS]; exact size_sig)
  have HSZP : Hid ((Try.prog.info? 28).map (·.size) = some P.length) := Lib.hid (by rw [hP]; exact size_puz)
  have HUNUM := Lib.hid Try.underlying30
  have HUSUM := Lib.hid Try.underlying26
  have HUSIG := Lib.hid Try.underlying32
  have HUPUZ := Lib.hid Try.underlying28
  have HP := Lib.hid hP
  have HJ := Lib.hid hJ
  have HC := Lib.hid hC
  have HSL := Lib.hid hS
  clear hP hJ hC hS
  have HB1 := Lib.hid hB
  have HK1 := Lib.hid hk
  have HCELL := Lib.hid hcell
  have HPP := Lib.hid hpp
  have HPG := Lib.hid hpg
  have HOP := Lib.hid hop
  have HOG := Lib.hid hog
  have HEJ := Lib.hid hej
  have HEP := Lib.hid hep
  have HEC := Lib.hid hec
  have HES := Lib.hid hes
  have HR := Lib.hid hr
  have HN := Lib.hid hn
  have H2 := Lib.hid h2
  have HNC := Lib.hid hnc
  have HP1 := Lib.hid hP1
  have HJ1 := Lib.hid hJ1
  have HC1 := Lib.hid hC1
  have HS1 := Lib.hid hS1
  have HT8_1 := Lib.hid ht8
  have HT10_1 := Lib.hid ht10
  have HT12_1 := Lib.hid ht12
  clear hB hk hcell hpp hpg hop hog hej hep hec hes hr hn h2 hnc hP1 hJ1 hC1 hS1 ht8 ht10 ht12
  obtain ⟨k0, k1, -, -, -, kj, ks, kc⟩ := HCELL.out w1 HK1.out
  refine wp_region_lit ?_
  refine wpList_read (o := ⟨some 64, _, _, _, _, _⟩) (v := ?_) (by rfl) ?_ ?_
  rotate_left
  · go_simp
    all_goals with_reducible rfl
  (try simp only [Act.put, List.setIfInBounds_toArray, List.set_cons_zero, List.set_cons_succ])
  refine wpList_read (o := ⟨some 65, _, _, _, _, _⟩) (v := ?_) (by rfl) ?_ ?_
  rotate_left
  · go_simp
    all_goals with_reducible rfl
  (try simp only [Act.put, List.setIfInBounds_toArray, List.set_cons_zero, List.set_cons_succ])
  refine wpList_read (o := ⟨some 66, _, _, _, _, _⟩) (v := ?_) (by rfl) ?_ ?_
  rotate_left
  · go_simp
    all_goals with_reducible rfl
  (try simp only [Act.put, List.setIfInBounds_toArray, List.set_cons_zero, List.set_cons_succ])
  refine wpList_read (o := ⟨some 67, _, _, _, _, _⟩) (v := ?_) (by rfl) ?_ ?_
  rotate_left
  · go_simp
    all_goals with_reducible rfl
  (try simp only [Act.put, List.setIfInBounds_toArray, List.set_cons_zero, List.set_cons_succ])
  refine wpList_read (o := ⟨some 68, _, _, _, _, _⟩) (v := ?_) (by rfl) ?_ ?_
  rotate_left
  · go_simp
    all_goals with_reducible rfl
  (try simp only [Act.put, List.setIfInBounds_toArray, List.set_cons_zero, List.set_cons_succ])
  refine wpList_read (o := ⟨some 69, _, _, _, _, _⟩) (v := ?_) (by rfl) ?_ ?_
  rotate_left
  · go_simp
    all_goals with_reducible rfl
  (try simp only [Act.put, List.setIfInBounds_toArray, List.set_cons_zero, List.set_cons_succ])
  refine wpList_read (o := ⟨some 70, _, _, _, _, _⟩) (v := ?_) (by rfl) ?_ ?_
  rotate_left
  · go_simp
    all_goals with_reducible rfl
  (try simp only [Act.put, List.setIfInBounds_toArray, List.set_cons_zero, List.set_cons_succ])
  refine wpList_read (o := ⟨some 71, _, _, _, _, _⟩) (v := ?_) (by rfl) ?_ ?_
  rotate_left
  · go_simp
    all_goals with_reducible rfl
  (try simp only [Act.put, List.setIfInBounds_toArray, List.set_cons_zero, List.set_cons_succ])
  refine wpList_read (o := ⟨some 72, _, _, _, _, _⟩) (v := ?_) (by rfl) ?_ ?_
  rotate_left
  · go_simp
    all_goals with_reducible rfl
  (try simp only [Act.put, List.setIfInBounds_toArray, List.set_cons_zero, List.set_cons_succ])
  refine wpList_read (o := ⟨some 73, _, _, _, _, _⟩) (v := ?_) (by rfl) ?_ ?_
  rotate_left
  · go_simp
    all_goals with_reducible rfl
  (try simp only [Act.put, List.setIfInBounds_toArray, List.set_cons_zero, List.set_cons_succ])
  refine wpList_read (o := ⟨some 74, _, _, _, _, _⟩) (v := ?_) (by rfl) ?_ ?_
  rotate_left
  · go_simp
    all_goals with_reducible rfl
  (try simp only [Act.put, List.setIfInBounds_toArray, List.set_cons_zero, List.set_cons_succ])
  refine wpList_read (o := ⟨some 75, _, _, _, _, _⟩) (v := ?_) (by rfl) ?_ ?_
  rotate_left
  · go_simp
    all_goals with_reducible rfl
  (try simp only [Act.put, List.setIfInBounds_toArray, List.set_cons_zero, List.set_cons_succ])
  refine wpList_read (o := ⟨some 76, _, _, _, _, _⟩) (v := ?_) (by rfl) ?_ ?_
  rotate_left
  · go_simp
    all_goals with_reducible rfl
  (try simp only [Act.put, List.setIfInBounds_toArray, List.set_cons_zero, List.set_cons_succ])
  refine wpList_read (o := ⟨some 77, _, _, _, _, _⟩) (v := ?_) (by rfl) ?_ ?_
  rotate_left
  · go_simp
    all_goals with_reducible rfl
  (try simp only [Act.put, List.setIfInBounds_toArray, List.set_cons_zero, List.set_cons_succ])
  refine wpList_read (o := ⟨some 78, _, _, _, _, _⟩) (v := ?_) (by rfl) ?_ ?_
  rotate_left
  · go_simp
    all_goals with_reducible rfl
  (try simp only [Act.put, List.setIfInBounds_toArray, List.set_cons_zero, List.set_cons_succ])
  refine wpList_read (o := ⟨some 79, _, _, _, _, _⟩) (v := ?_) (by rfl) ?_ ?_
  rotate_left
  · go_simp
    all_goals with_reducible rfl
  (try simp only [Act.put, List.setIfInBounds_toArray, List.set_cons_zero, List.set_cons_succ])
  refine wpList_read (o := ⟨some 80, _, _, _, _, _⟩) (v := ?_) (by rfl) ?_ ?_
  rotate_left
  · go_simp
    all_goals with_reducible rfl
  (try simp only [Act.put, List.setIfInBounds_toArray, List.set_cons_zero, List.set_cons_succ])
  refine wpList_read (o := ⟨some 81, _, _, _, _, _⟩) (v := ?_) (by rfl) ?_ ?_
  rotate_left
  · go_simp
    all_goals with_reducible rfl
  (try simp only [Act.put, List.setIfInBounds_toArray, List.set_cons_zero, List.set_cons_succ])
  refine wpList_read (o := ⟨some 82, _, _, _, _, _⟩) (v := ?_) (by rfl) ?_ ?_
  rotate_left
  · go_simp
    all_goals with_reducible rfl
  (try simp only [Act.put, List.setIfInBounds_toArray, List.set_cons_zero, List.set_cons_succ])
  refine wpList_read (o := ⟨some 83, _, _, _, _, _⟩) (v := ?_) (by rfl) ?_ ?_
  rotate_left
  · go_simp
    all_goals with_reducible rfl
  (try simp only [Act.put, List.setIfInBounds_toArray, List.set_cons_zero, List.set_cons_succ])
  refine wpList_read (o := ⟨some 84, _, _, _, _, _⟩) (v := ?_) (by rfl) ?_ ?_
  rotate_left
  · go_simp
    all_goals with_reducible rfl
  (try simp only [Act.put, List.setIfInBounds_toArray, List.set_cons_zero, List.set_cons_succ])
  refine wpList_read (o := ⟨some 85, _, _, _, _, _⟩) (v := ?_) (by rfl) ?_ ?_
  rotate_left
  · go_simp
    all_goals with_reducible rfl
  (try simp only [Act.put, List.setIfInBounds_toArray, List.set_cons_zero, List.set_cons_succ])
  refine wpList_read (o := ⟨some 86, _, _, _, _, _⟩) (v := ?_) (by rfl) ?_ ?_
  rotate_left
  · go_simp
    all_goals with_reducible rfl
  (try simp only [Act.put, List.setIfInBounds_toArray, List.set_cons_zero, List.set_cons_succ])
  refine wpList_read (o := ⟨some 87, _, _, _, _, _⟩) (v := ?_) (by rfl) ?_ ?_
  rotate_left
  · go_simp
    all_goals with_reducible rfl
  (try simp only [Act.put, List.setIfInBounds_toArray, List.set_cons_zero, List.set_cons_succ])
  refine wpList_read (o := ⟨some 88, _, _, _, _, _⟩) (v := ?_) (by rfl) ?_ ?_
  rotate_left
  · go_simp
    all_goals with_reducible rfl
  (try simp only [Act.put, List.setIfInBounds_toArray, List.set_cons_zero, List.set_cons_succ])
  refine wpList_read (o := ⟨some 89, _, _, _, _, _⟩) (v := ?_) (by rfl) ?_ ?_
  rotate_left
  · go_simp
    all_goals with_reducible rfl
  (try simp only [Act.put, List.setIfInBounds_toArray, List.set_cons_zero, List.set_cons_succ])
  refine wpList_read (o := ⟨some 90, _, _, _, _, _⟩) (v := ?_) (by rfl) ?_ ?_
  rotate_left
  · go_simp
    all_goals with_reducible rfl
  (try simp only [Act.put, List.setIfInBounds_toArray, List.set_cons_zero, List.set_cons_succ])
  refine wpList_read (o := ⟨some 91, _, _, _, _, _⟩) (v := ?_) (by rfl) ?_ ?_
  rotate_left
  · go_simp
    all_goals with_reducible rfl
  (try simp only [Act.put, List.setIfInBounds_toArray, List.set_cons_zero, List.set_cons_succ])
  refine wpList_read (o := ⟨some 92, _, _, _, _, _⟩) (v := ?_) (by rfl) ?_ ?_
  rotate_left
  · go_simp
    all_goals with_reducible rfl
  (try simp only [Act.put, List.setIfInBounds_toArray, List.set_cons_zero, List.set_cons_succ])
  refine wpList_want (o := ⟨some 93, .load 30 _, _, _, _, _⟩) (v := .agg C.toArray) (w' := _) (by rfl) (exec_loadM rfl T8 0 rfl C _ HT8_1.out.range HUNUM.out rfl HSZC.out) ?_
  (try simp only [Act.put, List.setIfInBounds_toArray, List.set_cons_zero, List.set_cons_succ])
  refine wpList_read (o := ⟨some 94, _, _, _, _, _⟩) (v := ?_) (by rfl) ?_ ?_
  rotate_left
  · go_simp
    all_goals with_reducible rfl
  (try simp only [Act.put, List.setIfInBounds_toArray, List.set_cons_zero, List.set_cons_succ])
  refine wpList_read (o := ⟨some 95, _, _, _, _, _⟩) (v := ?_) (by rfl) ?_ ?_
  rotate_left
  · go_simp
    all_goals with_reducible rfl
  (try simp only [Act.put, List.setIfInBounds_toArray, List.set_cons_zero, List.set_cons_succ])
  refine wpList_want (o := ⟨some 96, .load 30 _, _, _, _, _⟩) (v := .agg C.toArray) (w' := _) (by rfl) (exec_loadM rfl B 69 rfl C _ kc HUNUM.out rfl HSZC.out) ?_
  (try simp only [Act.put, List.setIfInBounds_toArray, List.set_cons_zero, List.set_cons_succ])
  refine wpList_want (o := ⟨some 97, _, _, _, _, _⟩) (v := .bool false) (w' := _) (by rfl) (exec_neqS C.toArray rfl rfl rfl nog_num (HEC.out _)) ?_
  (try simp only [Act.put, List.setIfInBounds_toArray, List.set_cons_zero, List.set_cons_succ])
  refine wpList_read (o := ⟨some 98, _, _, _, _, _⟩) (v := ?_) (by rfl) ?_ ?_
  rotate_left
  · go_simp
    all_goals with_reducible rfl
  (try simp only [Act.put, List.setIfInBounds_toArray, List.set_cons_zero, List.set_cons_succ])
  refine wpList_read (o := ⟨some 99, _, _, _, _, _⟩) (v := ?_) (by rfl) ?_ ?_
  rotate_left
  · go_simp
    all_goals with_reducible rfl
  (try simp only [Act.put, List.setIfInBounds_toArray, List.set_cons_zero, List.set_cons_succ])
  refine wpList_read (o := ⟨some 100, _, _, _, _, _⟩) (v := ?_) (by rfl) ?_ ?_
  rotate_left
  · go_simp
    all_goals with_reducible rfl
  (try simp only [Act.put, List.setIfInBounds_toArray, List.set_cons_zero, List.set_cons_succ])
  refine wpList_read (o := ⟨some 101, _, _, _, _, _⟩) (v := ?_) (by rfl) ?_ ?_
  rotate_left
  · go_simp
    all_goals with_reducible rfl
  (try simp only [Act.put, List.setIfInBounds_toArray, List.set_cons_zero, List.set_cons_succ])
  refine wpList_read (o := ⟨some 102, _, _, _, _, _⟩) (v := ?_) (by rfl) ?_ ?_
  rotate_left
  · go_simp
    all_goals with_reducible rfl
  (try simp only [Act.put, List.setIfInBounds_toArray, List.set_cons_zero, List.set_cons_succ])
  refine wpList_read (o := ⟨some 103, _, _, _, _, _⟩) (v := ?_) (by rfl) ?_ ?_
  rotate_left
  · go_simp
    all_goals with_reducible rfl
  (try simp only [Act.put, List.setIfInBounds_toArray, List.set_cons_zero, List.set_cons_succ])
  refine wpList_want (o := ⟨some 104, .load 26 _, _, _, _, _⟩) (v := .agg J.toArray) (w' := _) (by rfl) (exec_loadM rfl T10 0 rfl J _ HT10_1.out.range HUSUM.out rfl HSZJ.out) ?_
  (try simp only [Act.put, List.setIfInBounds_toArray, List.set_cons_zero, List.set_cons_succ])
  refine wpList_read (o := ⟨some 105, _, _, _, _, _⟩) (v := ?_) (by rfl) ?_ ?_
  rotate_left
  · go_simp
    all_goals with_reducible rfl
  (try simp only [Act.put, List.setIfInBounds_toArray, List.set_cons_zero, List.set_cons_succ])
  refine wpList_want (o := ⟨some 106, .load 26 _, _, _, _, _⟩) (v := .agg J.toArray) (w' := _) (by rfl) (exec_loadM rfl B 37 rfl J _ kj HUSUM.out rfl HSZJ.out) ?_
  (try simp only [Act.put, List.setIfInBounds_toArray, List.set_cons_zero, List.set_cons_succ])
  refine wpList_want (o := ⟨some 107, _, _, _, _, _⟩) (v := .bool false) (w' := _) (by rfl) (exec_neqS J.toArray rfl rfl rfl nog_sum (HEJ.out _)) ?_
  (try simp only [Act.put, List.setIfInBounds_toArray, List.set_cons_zero, List.set_cons_succ])
  refine wpList_read (o := ⟨some 108, _, _, _, _, _⟩) (v := ?_) (by rfl) ?_ ?_
  rotate_left
  · go_simp
    all_goals with_reducible rfl
  (try simp only [Act.put, List.setIfInBounds_toArray, List.set_cons_zero, List.set_cons_succ])
  refine wpList_read (o := ⟨some 109, _, _, _, _, _⟩) (v := ?_) (by rfl) ?_ ?_
  rotate_left
  · go_simp
    all_goals with_reducible rfl
  (try simp only [Act.put, List.setIfInBounds_toArray, List.set_cons_zero, List.set_cons_succ])
  refine wpList_read (o := ⟨some 110, _, _, _, _, _⟩) (v := ?_) (by rfl) ?_ ?_
  rotate_left
  · go_simp
    all_goals with_reducible rfl
  (try simp only [Act.put, List.setIfInBounds_toArray, List.set_cons_zero, List.set_cons_succ])
  refine wpList_read (o := ⟨some 111, _, _, _, _, _⟩) (v := ?_) (by rfl) ?_ ?_
  rotate_left
  · go_simp
    all_goals with_reducible rfl
  (try simp only [Act.put, List.setIfInBounds_toArray, List.set_cons_zero, List.set_cons_succ])
  refine wpList_read (o := ⟨some 112, _, _, _, _, _⟩) (v := ?_) (by rfl) ?_ ?_
  rotate_left
  · go_simp
    all_goals with_reducible rfl
  (try simp only [Act.put, List.setIfInBounds_toArray, List.set_cons_zero, List.set_cons_succ])
  refine wpList_read (o := ⟨some 113, _, _, _, _, _⟩) (v := ?_) (by rfl) ?_ ?_
  rotate_left
  · go_simp
    all_goals with_reducible rfl
  (try simp only [Act.put, List.setIfInBounds_toArray, List.set_cons_zero, List.set_cons_succ])
  refine wpList_want (o := ⟨some 114, .load 32 _, _, _, _, _⟩) (v := .agg S.toArray) (w' := _) (by rfl) (exec_loadM rfl T12 0 rfl S _ HT12_1.out.range HUSIG.out rfl HSZS.out) ?_
  (try simp only [Act.put, List.setIfInBounds_toArray, List.set_cons_zero, List.set_cons_succ])
  refine wpList_read (o := ⟨some 115, _, _, _, _, _⟩) (v := ?_) (by rfl) ?_ ?_
  rotate_left
  · go_simp
    all_goals with_reducible rfl
  (try simp only [Act.put, List.setIfInBounds_toArray, List.set_cons_zero, List.set_cons_succ])
  refine wpList_want (o := ⟨some 116, .load 32 _, _, _, _, _⟩) (v := .agg S.toArray) (w' := _) (by rfl) (exec_loadM rfl B 69 rfl S _ ks HUSIG.out rfl HSZS.out) ?_
  (try simp only [Act.put, List.setIfInBounds_toArray, List.set_cons_zero, List.set_cons_succ])
  refine wpList_want (o := ⟨some 117, _, _, _, _, _⟩) (v := .bool false) (w' := _) (by rfl) (exec_neqS S.toArray rfl rfl rfl nog_sig (HES.out _)) ?_
  (try simp only [Act.put, List.setIfInBounds_toArray, List.set_cons_zero, List.set_cons_succ])
  refine wpList_read (o := ⟨some 118, _, _, _, _, _⟩) (v := ?_) (by rfl) ?_ ?_
  rotate_left
  · go_simp
    all_goals with_reducible rfl
  (try simp only [Act.put, List.setIfInBounds_toArray, List.set_cons_zero, List.set_cons_succ])
  clear k0 k1 kj ks kc
  go_upto_region 8 with fail
  exact bback_mid (by rename_i hK'; exact hK') HB1.out HK1.out H2.out HR.out HNC.out HN.out HCELL.out HP.out HJ.out HC.out HSL.out HP1.out HJ1.out HC1.out HS1.out HPP.out HPG.out HOP.out HOG.out HEJ.out HEP.out
end Go.Proofs.Ytlcnjdpfijgcdaa
