/- The law SpotsStay: its third loop. (Printed by wip/mkstay.py.) -/
import Derived.Test.YtanpbimamdjdfaaSLStay3
import Derived.Test.YtanpbimamdjdfaaSStayP
import Derived.Deep.RegionHeld3
namespace Go.Proofs.Ytanpbimamdjdfaa
open Go.RowKit
set_option linter.unusedSimpArgs false
set_option linter.unusedVariables false

noncomputable def stay2 : Code := (Try.f6.body.bind (atRegion 21)).getD .skip
set_option maxRecDepth 100000 in
set_option maxHeartbeats 16000000 in
theorem stay_loop3 {K : Act → World → Prop} {u0 u1 u3 u4 u5 u6 u8 u9 u11 u13 u14 u15 u16 u17 u18 u19 u20 u21 u22 u23 u24 u25 u26 u27 u28 u29 u30 u31 u32 u33 u34 u35 u36 u37 u38 u39 u40 u41 u42 u43 u44 u45 u46 u47 u48 u49 u50 u51 u52 u53 u54 u55 u56 u57 u58 u59 u60 u61 u62 u63 u64 u65 u66 u67 u68 u69 u70 u71 u72 u73 u74 u75 u76 u77 u78 u79 u80 u81 u82 u83 u84 u85 u86 u87 u88 u89 u90 u91 u92 u93 u94 u95 u96 u97 u98 u99 u100 u101 u102 u103 u104 u105 u106 u107 u108 u109 u110 u111 u112 u113 u114 u115 u116 u117 u118 u119 u120 u121 u122 u123 u124 u125 u126 u127 u128 u129 u130 u131 u132 u133 u134 u135 u136 u137 u138 u139 u140 u141 u142 u143 u144 u145 u146 u147 u148 u149 u150 u151 u152 u153 u154 u155 u156 u157 u158 u159 u160 u161 u162 u163 u164 u165 u166 u167 u168 u169 u170 u171 u172 u173 u174 u175 u176 u177 u178 u179 u180 u181 u182 u183 u184 u185 u186 u187 u188 u189 u190 u191 u192 u193 u194 u195 u196 u197 u198 u199 u200 u201 u202 u203 u204 u205 u206 u207 u208 u209 u210 u211 u212 u213 u214 u215 u216 u217 u218 u219 u220 u221 u222 u223 u224 u225 u226 : Value} {w w1 : World} {p g n c m b2 o2 gw cw : Nat} {A12 : Option Addr} {xs : List Int} {l0 : List Spt} {cr : Int}
    (hK : ∀ a W, Code.wp Try.prog (seqB stay2) (bodyPost Try.prog Try.f6 fun e w' => e = .returned (.bool true) ∧ Below w.heap.size w w') a W → K a W)
    (hB : Below w.heap.size w w1) (hp : w.heap.size ≤ p) (hS : SetAt w1 p g (changeL l0 xs) cr) (hr : Rd w .u32 (some ⟨b2, o2, none⟩) n xs) (hnc : n ≤ c) (hncw : n ≤ cw) (hok : SpOk n (atL xs)) (hsts : ∀ s ∈ l0, s.st = 1 ∨ s.st = 2) (hwas : gw < w1.heap.size ∧ ∀ j a, xs[j]? = some a → w1.cell? ⟨gw, j, none⟩ = some (.int .u8 (stateOf l0 a))) (hoth : ListR w.heap.size w1 (othersL l0 xs) A12) (hm : (othersL l0 xs).length = m) :
    Code.wp Try.prog (seqA stay2) (Exit.then K (bodyPost Try.prog Try.f6 fun e w' => e = .returned (.bool true) ∧ Below w.heap.size w w')) ⟨#[u0, u1, .slice (some ⟨b2, o2, none⟩) n c, u3, u4, u5, u6, .pointer (some ⟨p, 0, none⟩), u8, u9, .slice (some ⟨gw, 0, none⟩) n cw, u11, .slice A12 m m, u13, u14, u15, u16, u17, u18, u19, u20, u21, u22, u23, u24, u25, u26, u27, u28, u29, u30, u31, u32, u33, u34, u35, u36, u37, u38, u39, u40, u41, u42, u43, u44, u45, u46, u47, u48, u49, u50, u51, u52, u53, u54, u55, u56, u57, u58, u59, u60, u61, u62, u63, u64, u65, u66, u67, u68, u69, u70, u71, u72, u73, u74, u75, u76, u77, u78, u79, u80, u81, u82, u83, u84, u85, u86, u87, u88, u89, u90, u91, u92, u93, u94, u95, u96, u97, u98, u99, u100, u101, u102, u103, u104, u105, u106, u107, u108, u109, u110, u111, u112, u113, u114, u115, u116, u117, u118, u119, u120, u121, u122, u123, u124, u125, u126, u127, u128, u129, u130, u131, u132, u133, u134, u135, u136, u137, u138, u139, u140, u141, u142, u143, u144, u145, u146, u147, u148, u149, u150, u151, u152, u153, u154, u155, u156, u157, u158, u159, u160, u161, u162, u163, u164, u165, u166, u167, u168, u169, u170, u171, u172, u173, u174, u175, u176, u177, u178, u179, u180, u181, u182, u183, u184, u185, u186, u187, u188, u189, u190, u191, u192, u193, u194, u195, u196, u197, u198, u199, u200, u201, u202, u203, u204, u205, u206, u207, u208, u209, u210, u211, u212, u213, u214, u215, u216, u217, u218, u219, u220, u221, u222, u223, u224, u225, u226], []⟩ w1 := by
  obtain ⟨rest, hrest⟩ : ∃ r, r = seqB stay2 := ⟨_, rfl⟩
  rw [← hrest] at hK
  conv at hrest => rhs; whnf
  subst hrest
  conv => arg 2; whnf
  have HB := Lib.hid hB
  have HP := Lib.hid hp
  have HS := Lib.hid hS
  have HR := Lib.hid hr
  have HXL := Lib.hid hr.len
  have HOK := Lib.hid hok
  have hn4 : 1 ≤ n ∧ n ≤ 4 := ⟨hok.1, hok.2.1⟩
  obtain ⟨b', o', he', hbl, hcell⟩ := hr.row (by omega)
  injection he' with he'
  injection he' with he1 he2
  subst he1 he2
  have HBL := Lib.hid hbl
  have HCELL := Lib.hid hcell
  have HWAS := Lib.hid hwas
  have HSTS := Lib.hid hsts
  have HOTH := Lib.hid hoth
  have HM := Lib.hid hm
  have hm4 : m ≤ 4 := by have := others_len l0 xs; have := hr.len; omega
  obtain ⟨x0, hx0⟩ : ∃ x0, xs[0]? = some x0 := ⟨_, List.getElem?_eq_getElem (by have := hr.len; omega)⟩
  have HX0 := Lib.hid hx0
  have HCL0 : Hid (∀ W, Below w.heap.size w W → ∀ j a, xs[j]? = some a → W.cell? ⟨b2, o2 + j, none⟩ = some (.int .u32 a)) := Lib.hid (fun W hW j a ha => by
    have hj : j < n := by have := (List.getElem?_eq_some_iff.1 ha).1; have := hr.len; omega
    have := (hW.cell (p := ⟨b2, o2 + j, none⟩) hbl).trans (hcell j hj)
    rwa [ha] at this)
  have c0 : w1.cell? ⟨b2, o2, none⟩ = some (.int .u32 x0) := HCL0.out w1 hB 0 x0 hx0
  clear hB hp hS hr hok hbl hcell hwas hsts hoth hm hx0
  go_wp2_with fail
  go_loopw [14, 15, 16, 17] (fun mv bv qv iv wr => ∃ (k mk : Nat) (bt : Int) (q : Bool), k ≤ n ∧ iv = .int .i64 k ∧ mv = .int .i64 (mk : Int) ∧ bv = .int .u32 bt ∧ qv = .bool q ∧ mk ≤ 4 ∧ (othersL l0 (xs.take k)).length = mk ∧ bestK (changeL l0 xs) x0 k = (bt, q) ∧ Below w1.heap.size w1 wr ∧ Below w.heap.size w wr) (fun _ _ _ i _ => n - (intOf i).toNat)
  case atStart => exact ⟨0, 0, x0, false, Nat.zero_le _, rfl, rfl, rfl, rfl, by omega, rfl, rfl, Below.refl _ _, HB.out⟩
  case round =>
    obtain ⟨k, mk, bt, q, hk, rfl, rfl, rfl, rfl, hmk4, hmk, hbk, hBr, hB⟩ := hrel
    have HBr := Lib.hid hBr
    have HB := Lib.hid hB
    have HMK := Lib.hid hmk
    have HBK := Lib.hid hbk
    clear hBr hB hmk hbk
    by_cases hlt : k < n
    · obtain ⟨a, ha⟩ : ∃ a, xs[k]? = some a := ⟨_, List.getElem?_eq_getElem (by rw [HXL.out]; exact hlt)⟩
      have HCW0 : Hid (∀ W, Below w1.heap.size w1 W → W.cell? ⟨gw, k, none⟩ = some (.int .u8 (stateOf l0 a))) := Lib.hid (fun W hW => (hW.cell (p := ⟨gw, k, none⟩) HWAS.out.1).trans (HWAS.out.2 k a ha))
      have HCL : Hid (∀ W, Below w.heap.size w W → W.cell? ⟨b2, o2 + k, none⟩ = some (.int .u32 a)) := Lib.hid (fun W hW => HCL0.out W hW k a ha)
      have cl : wr.cell? ⟨b2, o2 + k, none⟩ = some (.int .u32 a) := HCL.out wr HB.out
      have hst := state_change (l := l0) HXL.out HOK.out ha
      have hox := others_next (l := l0) ha
      have hcl : (changeL l0 xs)[k]? = some (nowS l0 a) := by simp [changeL, ha]
      have hbn := bestK_next (x0 := x0) hcl
      rw [HBK.out] at hbn
      simp only at hbn
      have i0 : (0 : Int) ≤ (k : Int) := by omega
      have i1 : (k : Int) < (n : Int) := by omega
      cases hf : l0.find? (isAt a) with
      | none =>
        have hno : (l0.find? (isAt a)).isNone = true := by rw [hf]; rfl
        have hnow : nowS l0 a = ⟨a, 1, none⟩ := by unfold nowS; rw [hf]; rfl
        have hwz : stateOf l0 a = 0 := by unfold stateOf; rw [hf]
        rw [hwz] at HCW0
        have HCW := HCW0
        rw [hnow] at hst hbn
        have HST := Lib.hid hst
        have hoa := others_at ha hno
        rw [HMK.out] at hoa
        have hmlt : mk < m := by
          have := (List.getElem?_eq_some_iff.1 hoa).1
          have := HM.out
          omega
        obtain ⟨G12, cells, rfl, hG12, hkk, htk⟩ := HOTH.out.1 (by have := HM.out; omega)
        have HCO : Hid (∀ W, Below w1.heap.size w1 W → W.cell? ⟨G12, mk, none⟩ = some (.int .u32 a)) := Lib.hid (fun W hW => by
          rw [(hkk.below hW hkk.lt).cell, show cells[mk]? = (cells.take (othersL l0 xs).length)[mk]? by rw [List.getElem?_take, if_pos (by rw [HM.out]; exact hmlt)], htk, List.getElem?_map, hoa]; rfl)
        have HMM := Lib.hid hmlt
        have HOX : Hid ((othersL l0 (xs.take (k + 1))).length = mk + 1) := Lib.hid (by rw [hox, hno, List.length_append, HMK.out]; rfl)
        have HBN : Hid (bestK (changeL l0 xs) x0 (k + 1) = (bt, q)) := Lib.hid (by
          rw [hbn]
          cases q
          · rfl
          · rfl)
        clear HCW0 hst hox hcl hbn hf hno hnow hwz hoa hG12 hkk htk ha
        go_wp2_with fail
        refine (state_at (HS.out.below HBr.out) a 1 HST.out).mono ?_; rintro e w3 ⟨rfl, -, hB3⟩
        have HB3 := Lib.hid (HB.out.trans (hB3.mono HB.out.size))
        have HBr3 := Lib.hid (HBr.out.trans (hB3.mono HBr.out.size))
        have cw3 : w3.cell? ⟨gw, k, none⟩ = some (.int .u8 0) := HCW.out w3 HBr3.out
        have cl3 : w3.cell? ⟨b2, o2 + k, none⟩ = some (.int .u32 a) := HCL.out w3 HB3.out
        clear hB3
        go_upto_region 31 with fail
        have co3 : w3.cell? ⟨G12, mk, none⟩ = some (.int .u32 a) := HCO.out w3 HBr3.out
        have hmm : (mk : Int) < (m : Int) := by have := HMM.out; omega
        have hmm2 : ¬ ((m : Int) ≤ (mk : Int)) := by omega
        have m0 : (0 : Int) ≤ (mk : Int) := by omega
        have HG31 := Lib.hid (And.intro cw3 trivial)
        refine wp_region_noPanic ?_
        refine wp_region_held_drew (S := (fun w' => w'.cell? ⟨G12, mk, none⟩ = some (.int .u32 a) ∧ w'.cell? ⟨b2, o2 + k, none⟩ = some (.int .u32 a))) (by kernel_rfl) ?_ (fun hHeld => ?_)
        · ((try dsimp only); refine ⟨?_, ?_⟩ <;> (first | assumption | (go_keep; done)))
        refine wpAnyH_take (i := 0) (oi := ⟨some 160, _, _, _, _, _⟩) (v := ?_) rfl (by kernel_rfl) (by kernel_rfl) (by kernel_rfl) (fun _ _ _ h => False.elim h) (Or.inl ⟨by rfl, ?_⟩) (by assumption) ?_
        rotate_left
        · intro w hSw
          (try dsimp only at hSw)
          go_simp
          all_goals with_reducible rfl
        (try simp only [Act.put, List.setIfInBounds_toArray, List.set_cons_zero, List.set_cons_succ])
        refine wpAnyH_take (i := 1) (oi := ⟨some 161, _, _, _, _, _⟩) (v := ?_) rfl (by kernel_rfl) (by kernel_rfl) (by kernel_rfl) (fun _ _ _ h => False.elim h) (Or.inl ⟨by rfl, ?_⟩) (by assumption) ?_
        rotate_left
        · intro w hSw
          (try dsimp only at hSw)
          go_simp
          all_goals with_reducible rfl
        (try simp only [Act.put, List.setIfInBounds_toArray, List.set_cons_zero, List.set_cons_succ])
        refine wpAnyH_take (i := 2) (oi := ⟨some 162, _, _, _, _, _⟩) (v := ?_) rfl (by kernel_rfl) (by kernel_rfl) (by kernel_rfl) (fun _ _ _ h => False.elim h) (Or.inl ⟨by rfl, ?_⟩) (by assumption) ?_
        rotate_left
        · intro w hSw
          (try dsimp only at hSw)
          go_simp
          all_goals with_reducible rfl
        (try simp only [Act.put, List.setIfInBounds_toArray, List.set_cons_zero, List.set_cons_succ])
        refine wpAnyH_take (i := 3) (oi := ⟨some 163, _, _, _, _, _⟩) (v := ?_) rfl (by kernel_rfl) (by kernel_rfl) (by kernel_rfl) (fun _ _ _ h => False.elim h) (Or.inl ⟨by rfl, ?_⟩) (by assumption) ?_
        rotate_left
        · intro w hSw
          (try dsimp only at hSw)
          go_simp
          all_goals with_reducible rfl
        (try simp only [Act.put, List.setIfInBounds_toArray, List.set_cons_zero, List.set_cons_succ])
        refine wpAnyH_take (i := 4) (oi := ⟨some 164, _, _, _, _, _⟩) (v := ?_) rfl (by kernel_rfl) (by kernel_rfl) (by kernel_rfl) (fun _ _ _ h => False.elim h) (Or.inl ⟨by rfl, ?_⟩) (by assumption) ?_
        rotate_left
        · intro w hSw
          (try dsimp only at hSw)
          go_simp
          all_goals with_reducible rfl
        (try simp only [Act.put, List.setIfInBounds_toArray, List.set_cons_zero, List.set_cons_succ])
        refine wpAnyH_take (i := 5) (oi := ⟨some 165, _, _, _, _, _⟩) (v := ?_) rfl (by kernel_rfl) (by kernel_rfl) (by kernel_rfl) (fun _ _ _ h => False.elim h) (Or.inl ⟨by rfl, ?_⟩) (by assumption) ?_
        rotate_left
        · intro w hSw
          (try dsimp only at hSw)
          go_simp
          all_goals with_reducible rfl
        (try simp only [Act.put, List.setIfInBounds_toArray, List.set_cons_zero, List.set_cons_succ])
        refine wpAnyH_take (i := 6) (oi := ⟨some 166, _, _, _, _, _⟩) (v := ?_) rfl (by kernel_rfl) (by kernel_rfl) (by kernel_rfl) (fun _ _ _ h => False.elim h) (Or.inl ⟨by rfl, ?_⟩) (by assumption) ?_
        rotate_left
        · intro w hSw
          (try dsimp only at hSw)
          go_simp
          all_goals with_reducible rfl
        (try simp only [Act.put, List.setIfInBounds_toArray, List.set_cons_zero, List.set_cons_succ])
        refine wpAnyH_take (i := 7) (oi := ⟨some 167, _, _, _, _, _⟩) (v := ?_) rfl (by kernel_rfl) (by kernel_rfl) (by kernel_rfl) (fun _ _ _ h => False.elim h) (Or.inl ⟨by rfl, ?_⟩) (by assumption) ?_
        rotate_left
        · intro w hSw
          (try dsimp only at hSw)
          go_simp
          all_goals with_reducible rfl
        (try simp only [Act.put, List.setIfInBounds_toArray, List.set_cons_zero, List.set_cons_succ])
        refine wpAnyH_take (i := 8) (oi := ⟨some 168, _, _, _, _, _⟩) (v := ?_) rfl (by kernel_rfl) (by kernel_rfl) (by kernel_rfl) (fun _ _ _ h => False.elim h) (Or.inl ⟨by rfl, ?_⟩) (by assumption) ?_
        rotate_left
        · intro w hSw
          (try dsimp only at hSw)
          go_simp
          all_goals with_reducible rfl
        (try simp only [Act.put, List.setIfInBounds_toArray, List.set_cons_zero, List.set_cons_succ])
        refine wpAnyH_take (i := 9) (oi := ⟨some 169, _, _, _, _, _⟩) (v := ?_) rfl (by kernel_rfl) (by kernel_rfl) (by kernel_rfl) (fun _ _ _ h => False.elim h) (Or.inl ⟨by rfl, ?_⟩) (by assumption) ?_
        rotate_left
        · intro w hSw
          (try dsimp only at hSw)
          go_simp
          all_goals with_reducible rfl
        (try simp only [Act.put, List.setIfInBounds_toArray, List.set_cons_zero, List.set_cons_succ])
        refine wpAnyH_take (i := 10) (oi := ⟨some 170, _, _, _, _, _⟩) (v := ?_) rfl (by kernel_rfl) (by kernel_rfl) (by kernel_rfl) (fun _ _ _ h => False.elim h) (Or.inl ⟨by rfl, ?_⟩) (by assumption) ?_
        rotate_left
        · intro w hSw
          (try dsimp only at hSw)
          go_simp
          all_goals with_reducible rfl
        (try simp only [Act.put, List.setIfInBounds_toArray, List.set_cons_zero, List.set_cons_succ])
        refine wpAnyH_take (i := 11) (oi := ⟨some 171, _, _, _, _, _⟩) (v := ?_) rfl (by kernel_rfl) (by kernel_rfl) (by kernel_rfl) (fun _ _ _ h => False.elim h) (Or.inl ⟨by rfl, ?_⟩) (by assumption) ?_
        rotate_left
        · intro w hSw
          (try dsimp only at hSw)
          go_simp
          all_goals with_reducible rfl
        (try simp only [Act.put, List.setIfInBounds_toArray, List.set_cons_zero, List.set_cons_succ])
        refine wpAnyH_take (i := 12) (oi := ⟨some 172, _, _, _, _, _⟩) (v := ?_) rfl (by kernel_rfl) (by kernel_rfl) (by kernel_rfl) (fun _ _ _ h => False.elim h) (Or.inl ⟨by rfl, ?_⟩) (by assumption) ?_
        rotate_left
        · intro w hSw
          (try dsimp only at hSw)
          go_simp
          all_goals with_reducible rfl
        (try simp only [Act.put, List.setIfInBounds_toArray, List.set_cons_zero, List.set_cons_succ])
        refine wpAnyH_take (i := 13) (oi := ⟨some 173, _, _, _, _, _⟩) (v := ?_) rfl (by kernel_rfl) (by kernel_rfl) (by kernel_rfl) (fun _ _ _ h => False.elim h) (Or.inl ⟨by rfl, ?_⟩) (by assumption) ?_
        rotate_left
        · intro w hSw
          (try dsimp only at hSw)
          go_simp
          all_goals with_reducible rfl
        (try simp only [Act.put, List.setIfInBounds_toArray, List.set_cons_zero, List.set_cons_succ])
        refine wpAnyH_take (i := 14) (oi := ⟨some 174, _, _, _, _, _⟩) (v := ?_) rfl (by kernel_rfl) (by kernel_rfl) (by kernel_rfl) (fun _ _ _ h => False.elim h) (Or.inl ⟨by rfl, ?_⟩) (by assumption) ?_
        rotate_left
        · intro w hSw
          (try dsimp only at hSw)
          go_simp
          all_goals with_reducible rfl
        (try simp only [Act.put, List.setIfInBounds_toArray, List.set_cons_zero, List.set_cons_succ])
        refine wpAnyH_done (by kernel_rfl) ?_ _
        refine NoPanic.normal ?_
        have HBr4 : Hid (Below w1.heap.size w1 w3.drew) := Lib.hid HBr3.out.drew
        have HB4 : Hid (Below w.heap.size w w3.drew) := Lib.hid HB3.out.drew
        go_wp2_with fail
        go_roundw
        case rel => exact ⟨k + 1, mk + 1, bt, q, by omega, by go_num, by go_num, rfl, rfl, by omega, HOX.out, HBN.out, HBr4.out, HB4.out⟩
        case measure => simp [intOf]; omega
      | some s =>
        have hno : (l0.find? (isAt a)).isNone = false := by rw [hf]; rfl
        have hnow : nowS l0 a = s := by unfold nowS; rw [hf]; rfl
        have hwz : stateOf l0 a = s.st := by unfold stateOf; rw [hf]
        rw [hwz] at HCW0
        rw [hnow] at hst hbn
        have hsa : s.at_ = a := by have := List.find?_some hf; simpa [isAt] using this
        have HOX : Hid ((othersL l0 (xs.take (k + 1))).length = mk) := Lib.hid (by rw [hox, hno]; simp [HMK.out])
        have hs12 := HSTS.out s (List.mem_of_find?_eq_some hf)
        rcases hs12 with hs1 | hs2
        · rw [hs1] at HCW0 hst
          have HCW := HCW0
          have HST := Lib.hid hst
          have HBN : Hid (bestK (changeL l0 xs) x0 (k + 1) = (bt, q)) := Lib.hid (by
            rw [hbn, if_neg (show ¬ isSure s = true by simp [isSure, hs1])]
            cases q <;> rfl)
          clear HCW0 hst hox hcl hbn hf hno hnow hwz ha hsa hs1
          go_wp2_with fail
          refine (state_at (HS.out.below HBr.out) a 1 HST.out).mono ?_; rintro e w3 ⟨rfl, -, hB3⟩
          have HB3 := Lib.hid (HB.out.trans (hB3.mono HB.out.size))
          have HBr3 := Lib.hid (HBr.out.trans (hB3.mono HBr.out.size))
          have cw3 : w3.cell? ⟨gw, k, none⟩ = some (.int .u8 1) := HCW.out w3 HBr3.out
          have cl3 : w3.cell? ⟨b2, o2 + k, none⟩ = some (.int .u32 a) := HCL.out w3 HB3.out
          clear hB3
          go_wp2_with fail
          go_roundw
          case rel => exact ⟨k + 1, mk, bt, q, by omega, by go_num, rfl, rfl, rfl, by omega, HOX.out, HBN.out, HBr3.out, HB3.out⟩
          case measure => simp [intOf]; omega
        · rw [hs2] at HCW0 hst
          have HCW := HCW0
          have HST := Lib.hid hst
          cases q
          · have HBN : Hid (bestK (changeL l0 xs) x0 (k + 1) = (a, true)) := Lib.hid (by
              rw [hbn, if_pos (show isSure s = true by simp [isSure, hs2]), hsa]; rfl)
            clear HCW0 hst hox hcl hbn hf hno hnow hwz ha hsa hs2
            go_wp2_with fail
            refine (state_at (HS.out.below HBr.out) a 2 HST.out).mono ?_; rintro e w3 ⟨rfl, -, hB3⟩
            have HB3 := Lib.hid (HB.out.trans (hB3.mono HB.out.size))
            have HBr3 := Lib.hid (HBr.out.trans (hB3.mono HBr.out.size))
            have cw3 : w3.cell? ⟨gw, k, none⟩ = some (.int .u8 2) := HCW.out w3 HBr3.out
            have cl3 : w3.cell? ⟨b2, o2 + k, none⟩ = some (.int .u32 a) := HCL.out w3 HB3.out
            clear hB3
            go_wp2_with fail
            go_roundw
            case rel => exact ⟨k + 1, mk, a, true, by omega, by go_num, rfl, rfl, rfl, by omega, HOX.out, HBN.out, HBr3.out, HB3.out⟩
            case measure => simp [intOf]; omega
          · have HBN : Hid (bestK (changeL l0 xs) x0 (k + 1) = (bt, true)) := Lib.hid (by
              rw [hbn]; rfl)
            clear HCW0 hst hox hcl hbn hf hno hnow hwz ha hsa hs2
            go_wp2_with fail
            refine (state_at (HS.out.below HBr.out) a 2 HST.out).mono ?_; rintro e w3 ⟨rfl, -, hB3⟩
            have HB3 := Lib.hid (HB.out.trans (hB3.mono HB.out.size))
            have HBr3 := Lib.hid (HBr.out.trans (hB3.mono HBr.out.size))
            have cw3 : w3.cell? ⟨gw, k, none⟩ = some (.int .u8 2) := HCW.out w3 HBr3.out
            have cl3 : w3.cell? ⟨b2, o2 + k, none⟩ = some (.int .u32 a) := HCL.out w3 HB3.out
            clear hB3
            go_wp2_with fail
            go_roundw
            case rel => exact ⟨k + 1, mk, bt, true, by omega, by go_num, rfl, rfl, rfl, by omega, HOX.out, HBN.out, HBr3.out, HB3.out⟩
            case measure => simp [intOf]; omega
    · obtain rfl : k = n := by omega
      have hbo := bestK_all (l := changeL l0 xs) (x0 := x0) (n := k) (by rw [changeL, List.length_map, HXL.out]) (by simp [changeL, HX0.out, nowS_at])
      rw [HBK.out] at hbo
      have hmk : mk = m := by
        have h := HMK.out
        rw [List.take_of_length_le (by rw [HXL.out]; omega), HM.out] at h
        exact h.symm
      subst hmk
      go_upto_region 37 with fail
      exact stay_tail (by rename_i hK'; exact hK') HB.out HP.out (HS.out.below HBr.out) HR.out hnc HOK.out (change_fix HXL.out HOK.out) (others_fix HXL.out HOK.out) (change_ats _ _) hbo hmk4
end Go.Proofs.Ytanpbimamdjdfaa
