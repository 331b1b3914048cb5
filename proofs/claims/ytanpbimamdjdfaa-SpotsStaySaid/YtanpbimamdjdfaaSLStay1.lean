/- The law SpotsStay: its second loop. (Printed by wip/mkstay.py.) -/
import Derived.Test.YtanpbimamdjdfaaSLStay2
namespace Go.Proofs.Ytanpbimamdjdfaa
open Go.RowKit
set_option linter.unusedSimpArgs false
set_option linter.unusedVariables false

theorem info_state : (Try.prog.info? 45).map (fun i => (i.zero, i.size, i.bytes)) = some (some (.int .u8 0), 1, 1) := by kernel_rfl
noncomputable def stay1 : Code := (Try.f6.body.bind (atRegion 11)).getD .skip
set_option maxRecDepth 100000 in
set_option maxHeartbeats 16000000 in
theorem stay_was {K : Act → World → Prop} {u0 u1 u3 u4 u5 u6 u8 u9 u10 u11 u12 u13 u14 u15 u16 u17 u18 u19 u20 u21 u22 u23 u24 u25 u26 u27 u28 u29 u30 u31 u32 u33 u34 u35 u36 u37 u38 u39 u40 u41 u42 u43 u44 u45 u46 u47 u48 u49 u50 u51 u52 u53 u54 u55 u56 u57 u58 u59 u60 u61 u62 u63 u64 u65 u66 u67 u68 u69 u70 u71 u72 u73 u74 u75 u76 u77 u78 u79 u80 u81 u82 u83 u84 u85 u86 u87 u88 u89 u90 u91 u92 u93 u94 u95 u96 u97 u98 u99 u100 u101 u102 u103 u104 u105 u106 u107 u108 u109 u110 u111 u112 u113 u114 u115 u116 u117 u118 u119 u120 u121 u122 u123 u124 u125 u126 u127 u128 u129 u130 u131 u132 u133 u134 u135 u136 u137 u138 u139 u140 u141 u142 u143 u144 u145 u146 u147 u148 u149 u150 u151 u152 u153 u154 u155 u156 u157 u158 u159 u160 u161 u162 u163 u164 u165 u166 u167 u168 u169 u170 u171 u172 u173 u174 u175 u176 u177 u178 u179 u180 u181 u182 u183 u184 u185 u186 u187 u188 u189 u190 u191 u192 u193 u194 u195 u196 u197 u198 u199 u200 u201 u202 u203 u204 u205 u206 u207 u208 u209 u210 u211 u212 u213 u214 u215 u216 u217 u218 u219 u220 u221 u222 u223 u224 u225 u226 : Value} {w w1 : World} {p g n c : Nat} {A2 : Option Addr} {xs : List Int} {l0 : List Spt} {cr : Int}
    (hK : ∀ a W, Code.wp Try.prog (seqB stay1) (bodyPost Try.prog Try.f6 fun e w' => e = .returned (.bool true) ∧ Below w.heap.size w w') a W → K a W)
    (hB : Below w.heap.size w w1) (hp : w.heap.size ≤ p) (hS : SetAt w1 p g l0 cr) (hr : Rd w .u32 A2 n xs) (hnc : n ≤ c) (hn20 : n ≤ 20) :
    Code.wp Try.prog (seqA stay1) (Exit.then K (bodyPost Try.prog Try.f6 fun e w' => e = .returned (.bool true) ∧ Below w.heap.size w w')) ⟨#[u0, u1, .slice A2 n c, u3, u4, u5, u6, .pointer (some ⟨p, 0, none⟩), u8, u9, u10, u11, u12, u13, u14, u15, u16, u17, u18, u19, u20, u21, u22, u23, u24, u25, u26, u27, u28, u29, u30, u31, u32, u33, u34, u35, u36, u37, u38, u39, u40, u41, u42, u43, u44, u45, u46, u47, u48, u49, u50, u51, u52, u53, u54, u55, u56, u57, u58, u59, u60, u61, u62, u63, u64, u65, u66, u67, u68, u69, u70, u71, u72, u73, u74, u75, u76, u77, u78, u79, u80, u81, u82, u83, u84, u85, u86, u87, u88, u89, u90, u91, u92, u93, u94, u95, u96, u97, u98, u99, u100, u101, u102, u103, u104, u105, u106, u107, u108, u109, u110, u111, u112, u113, u114, u115, u116, u117, u118, u119, u120, u121, u122, u123, u124, u125, u126, u127, u128, u129, u130, u131, u132, u133, u134, u135, u136, u137, u138, u139, u140, u141, u142, u143, u144, u145, u146, u147, u148, u149, u150, u151, u152, u153, u154, u155, u156, u157, u158, u159, u160, u161, u162, u163, u164, u165, u166, u167, u168, u169, u170, u171, u172, u173, u174, u175, u176, u177, u178, u179, u180, u181, u182, u183, u184, u185, u186, u187, u188, u189, u190, u191, u192, u193, u194, u195, u196, u197, u198, u199, u200, u201, u202, u203, u204, u205, u206, u207, u208, u209, u210, u211, u212, u213, u214, u215, u216, u217, u218, u219, u220, u221, u222, u223, u224, u225, u226], []⟩ w1 := by
  obtain ⟨rest, hrest⟩ : ∃ r, r = seqB stay1 := ⟨_, rfl⟩
  rw [← hrest] at hK
  conv at hrest => rhs; whnf
  subst hrest
  conv => arg 2; whnf
  have HB := Lib.hid hB
  have HP := Lib.hid hp
  have HS := Lib.hid hS
  have HR := Lib.hid hr
  have HXL := Lib.hid hr.len
  have HCL0 : Hid (∀ W, Below w.heap.size w W → 0 < n → ∃ b o, A2 = some ⟨b, o, none⟩ ∧ ∀ j a, xs[j]? = some a → W.cell? ⟨b, o + j, none⟩ = some (.int .u32 a)) := Lib.hid (fun W hW h0 => by
    obtain ⟨b, o, e, hbl, hcell⟩ := hr.row h0
    refine ⟨b, o, e, fun j a ha => ?_⟩
    have hj : j < n := by have := (List.getElem?_eq_some_iff.1 ha).1; have := hr.len; omega
    have := (hW.cell (p := ⟨b, o + j, none⟩) hbl).trans (hcell j hj)
    rwa [ha] at this)
  clear hB hp hS hr
  go_wp2_with fail
  go_loopw [10, 11] (fun v i wr => ∃ k : Nat, k ≤ n ∧ i = .int .i64 k ∧ wr.ownsRow w.heap.size 45 1 v k (((xs.take k).map (stateOf l0)).map (Value.int .u8)) ∧ Keeps (fun i => w1.heap.size ≤ i) w1 wr ∧ Below w.heap.size w wr ∧ (∀ i, v.ownBlock = some i → w1.heap.size ≤ i)) (fun _ i _ => n - (intOf i).toNat)
  case atStart => exact ⟨0, Nat.zero_le _, rfl, own_nil _ _ _ _, Keeps.refl _ _, HB.out, fun i hi => by simp [Value.ownBlock] at hi⟩
  case round =>
    obtain ⟨k, hk, rfl, ho, hK, hB, hv⟩ := hrel
    obtain ⟨AV, cv, rfl, hkc, hcm, -⟩ := own_slice ho
    by_cases hlt : k < n
    · obtain ⟨a, ha⟩ : ∃ a, xs[k]? = some a := ⟨_, List.getElem?_eq_getElem (by rw [HXL.out]; exact hlt)⟩
      obtain ⟨b2, o2, rfl, hcl⟩ := HCL0.out wr hB (by omega)
      have cl := hcl k a ha
      have hS1 : SetAt wr p g l0 cr := HS.out.below (hK.to_below (Nat.le_refl _) (fun i hi => hi))
      have htk : (xs.take (k + 1)).map (stateOf l0) = (xs.take k).map (stateOf l0) ++ [stateOf l0 a] := by
        have h := (List.getElem?_eq_some_iff.1 ha).1
        rw [List.take_succ_eq_append_getElem h, List.map_append, (List.getElem?_eq_some_iff.1 ha).2]; rfl
      have HST := Lib.hid (state_at hS1 a (stateOf l0 a) rfl)
      have HO := Lib.hid ho
      have HK := Lib.hid hK
      have HB1 := Lib.hid hB
      have HV := Lib.hid hv
      obtain ⟨ys, hys⟩ : ∃ ys, (xs.take k).map (stateOf l0) = ys := ⟨_, rfl⟩
      obtain ⟨s, hs⟩ : ∃ s, stateOf l0 a = s := ⟨_, rfl⟩
      rw [hys] at HO htk
      rw [hs] at HST htk
      have HTK := Lib.hid htk
      have i0 : (0 : Int) ≤ (k : Int) := by omega
      have i1 : (k : Int) < (n : Int) := by omega
      clear ha hcl hS1 htk ho hK hB hv hys hs
      go_wp2_with fail
      refine HST.out.mono ?_; rintro e w3 ⟨rfl, -, hB3⟩
      have HO3 := Lib.hid ((Keeps.of_below (M := fun _ => False) hB3).own HO.out (fun _ _ h => h))
      have HB3 := Lib.hid (HB1.out.trans (hB3.mono HB1.out.size))
      have HK3 := Lib.hid (HK.out.below hB3)
      clear hB3
      go_wp2_with (at_builtin; refine append_int (W := w3) w.heap.size rfl _ _ 54 45 .u8 1 rfl Try.underlying54 info_state (by omega) (.slice AV k cv) k ys s rfl rfl HO3.out HB3.out.size (by omega) ?_; intro v1 w4 ho4 hk4 hb4; have HO4 := Lib.hid ho4; have HK4 := Lib.hid hk4; have HBK4 := Lib.hid hb4; clear ho4 hk4 hb4)
      go_roundw
      case rel =>
        refine ⟨k + 1, by omega, by go_num, by rw [HTK.out]; exact HO4.out, HK3.out.then_ (M' := fun i => (Value.slice AV k cv).ownBlock = some i) HK4.out (fun i hi => .inl (HV.out i hi)), below_keeps HB3.out HK4.out (Nat.le_refl _) (fun i hi => (own_base HO3.out i hi).1), fun i hi => ?_⟩
        rcases HBK4.out with h | ⟨b, h, hbb⟩
        · exact HV.out i (by rw [← h]; exact hi)
        · rw [h] at hi
          injection hi with hi
          have := HK3.out.size
          omega
      case measure => simp [intOf]; omega
    · obtain rfl : k = n := by omega
      rw [List.take_of_length_le (by rw [HXL.out]; omega)] at ho
      have hS1 : SetAt wr p g l0 cr := HS.out.below (hK.to_below (Nat.le_refl _) (fun i hi => hi))
      have HCH := Lib.hid (change_any hS1 A2 k c xs (HR.out.below hB) hnc (by omega))
      have HS1 := Lib.hid hS1
      have HB1 := Lib.hid hB
      have HO := Lib.hid ho
      clear ho hK hB hv hS1
      go_wp2_with fail
      refine HCH.out.mono ?_; rintro e w5 hres
      rcases hres with ⟨hno, rfl, hS5, hB5⟩ | ⟨hok, A12, G, rfl, hl, hG, hS5, hK5⟩
      · have HB5 := Lib.hid (HB1.out.trans (hB5.mono HB1.out.size))
        clear hno hS5 hB5 HCH
        go_wp2_with fail
        go_ret
        exact ⟨rfl, HB5.out⟩
      · obtain ⟨b2, o2, rfl, -, -⟩ := HR.out.row hok.1
        obtain ⟨hlw, AW, cw, he, hcw, -, hrw⟩ := own_ints HO.out
        injection he with he1 he2 he3
        subst he1 he3
        obtain ⟨gw, rfl, hgb, hgl, hcells⟩ := hrw hok.1
        have HGP := Lib.hid (show gw ≠ p from fun h => own_blk_ne HO.out HS1.out.set (by decide) (by rw [← h]; rfl))
        have HB5 := Lib.hid (below_keeps HB1.out hK5 (Nat.le_refl _) (fun i hi => by rw [hi]; exact HP.out))
        have HWAS : Hid (gw < w5.heap.size ∧ ∀ j a, xs[j]? = some a → w5.cell? ⟨gw, j, none⟩ = some (.int .u8 (stateOf l0 a))) := Lib.hid ⟨Nat.lt_of_lt_of_le hgl hK5.size, fun j a ha => by
          have hj : j < k := by have := (List.getElem?_eq_some_iff.1 ha).1; have := HXL.out; omega
          rw [hK5.cell (p := ⟨gw, j, none⟩) hgl HGP.out, hcells j hj, List.getElem?_map, ha]; rfl⟩
        have HL : Hid (ListR w.heap.size w5 (othersL l0 xs) A12) := Lib.hid ⟨fun h0 => by
          obtain ⟨G', cells, h1, h2, h3, h4⟩ := hl.1 h0
          exact ⟨G', cells, h1, Nat.le_trans HB1.out.size h2, h3, h4⟩, hl.2⟩
        obtain ⟨m, hm⟩ : ∃ m, (othersL l0 xs).length = m := ⟨_, rfl⟩
        rw [hm]
        have HM := Lib.hid hm
        have HS5 := Lib.hid hS5
        have HOK := Lib.hid hok
        have hk1 : 1 ≤ k := hok.1
        have hk1i : ¬ ((k : Int) = 0) := by omega
        have HCW := Lib.hid hcw
        clear hl hG hS5 hK5 HCH hlw hcw hgb hgl hcells hm hok
        go_upto_region 21 with fail
        exact stay_loop3 (by rename_i hK'; exact hK') HB5.out HP.out HS5.out HR.out hnc HCW.out HOK.out HS1.out.sts HWAS.out HL.out HM.out
end Go.Proofs.Ytanpbimamdjdfaa
