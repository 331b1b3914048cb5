/- The law SpotsStay: its last part. (Printed by wip/mkstay.py.) -/
import Derived.Test.YtanpbimamdjdfaaSAlive
import Derived.Test.YtanpbimamdjdfaaSGreat
import Derived.Test.YtanpbimamdjdfaaBdSame
import Derived.Test.YtanpbimamdjdfaaPiece
namespace Go.Proofs.Ytanpbimamdjdfaa
open Go.RowKit
set_option linter.unusedSimpArgs false
set_option linter.unusedVariables false

theorem same_trueS {A B : Option Addr} {n m c d : Nat} {xs : List Int} {w : World} (r : Rd w .u32 A n xs) (s : Rd w .u32 B m xs) :
    Calls Try.prog 18 #[.slice A n c, .slice B m d] w fun e w' => e = .returned (.bool true) ∧ Below w.heap.size w w' :=
  (samespots_any A B n m c d xs xs w r s).mono fun e w' ⟨q, he, hq, hB⟩ => by
    have : q = true := hq.2 rfl
    subst this
    exact ⟨he, hB⟩
theorem list_at {p g n : Nat} {l : List Spt} {cr : Int} {w : World} {xs : List Int} (h : SetAt w p g l cr) (hx : l.map (·.at_) = xs) (hn : xs.length = n) (hb : ∀ x ∈ xs, 0 ≤ x ∧ x ≤ 4294967295) (hl : n ≤ 140737488351232) :
    Calls Try.prog 17 #[.pointer (some ⟨p, 0, none⟩)] w fun e w' => ∃ A, e = .returned (.slice A n n) ∧ Rd w' .u32 A n xs ∧ Below w.heap.size w w' :=
  (list_any h).mono fun e w' hh => by
    rw [hx] at hh
    subst hn
    obtain ⟨A, he, hr, _⟩ := hh.rd hb hl
    obtain ⟨_, _, _, _, _, hB⟩ := hh
    exact ⟨A, he, hr, hB⟩
noncomputable def stay3 : Code := (Try.f6.body.bind (atRegion 37)).getD .skip
set_option maxRecDepth 100000 in
set_option maxHeartbeats 16000000 in
theorem stay_tail {K : Act → World → Prop} {u0 u1 u3 u4 u5 u6 u8 u9 u10 u11 u13 u17 u18 u19 u20 u21 u22 u23 u24 u25 u26 u27 u28 u29 u30 u31 u32 u33 u34 u35 u36 u37 u38 u39 u40 u41 u42 u43 u44 u45 u46 u47 u48 u49 u50 u51 u52 u53 u54 u55 u56 u57 u58 u59 u60 u61 u62 u63 u64 u65 u66 u67 u68 u69 u70 u71 u72 u73 u74 u75 u76 u77 u78 u79 u80 u81 u82 u83 u84 u85 u86 u87 u88 u89 u90 u91 u92 u93 u94 u95 u96 u97 u98 u99 u100 u101 u102 u103 u104 u105 u106 u107 u108 u109 u110 u111 u112 u113 u114 u115 u116 u117 u118 u119 u120 u121 u122 u123 u124 u125 u126 u127 u128 u129 u130 u131 u132 u133 u134 u135 u136 u137 u138 u139 u140 u141 u142 u143 u144 u145 u146 u147 u148 u149 u150 u151 u152 u153 u154 u155 u156 u157 u158 u159 u160 u161 u162 u163 u164 u165 u166 u167 u168 u169 u170 u171 u172 u173 u174 u175 u176 u177 u178 u179 u180 u181 u182 u183 u184 u185 u186 u187 u188 u189 u190 u191 u192 u193 u194 u195 u196 u197 u198 u199 u200 u201 u202 u203 u204 u205 u206 u207 u208 u209 u210 u211 u212 u213 u214 u215 u216 u217 u218 u219 u220 u221 u222 u223 u224 u225 u226 : Value} {w w1 : World} {p g n c m : Nat} {A2 A12 : Option Addr} {xs : List Int} {l : List Spt} {cr bt : Int} {q : Bool}
    (hK : ∀ a W, Code.wp Try.prog (seqB stay3) (bodyPost Try.prog Try.f6 fun e w' => e = .returned (.bool true) ∧ Below w.heap.size w w') a W → K a W)
    (hB : Below w.heap.size w w1) (hp : w.heap.size ≤ p) (hS : SetAt w1 p g l cr) (hr : Rd w .u32 A2 n xs) (hnc : n ≤ c) (hok : SpOk n (atL xs)) (hfix : changeL l xs = l) (hoth : othersL l xs = []) (hats : l.map (·.at_) = xs) (hbest : bestOf l = (bt, q)) (hm : m ≤ 4) :
    Code.wp Try.prog (seqA stay3) (Exit.then K (bodyPost Try.prog Try.f6 fun e w' => e = .returned (.bool true) ∧ Below w.heap.size w w')) ⟨#[u0, u1, .slice A2 n c, u3, u4, u5, u6, .pointer (some ⟨p, 0, none⟩), u8, u9, u10, u11, .slice A12 m m, u13, .int .i64 (m : Int), .int .u32 bt, .bool q, u17, u18, u19, u20, u21, u22, u23, u24, u25, u26, u27, u28, u29, u30, u31, u32, u33, u34, u35, u36, u37, u38, u39, u40, u41, u42, u43, u44, u45, u46, u47, u48, u49, u50, u51, u52, u53, u54, u55, u56, u57, u58, u59, u60, u61, u62, u63, u64, u65, u66, u67, u68, u69, u70, u71, u72, u73, u74, u75, u76, u77, u78, u79, u80, u81, u82, u83, u84, u85, u86, u87, u88, u89, u90, u91, u92, u93, u94, u95, u96, u97, u98, u99, u100, u101, u102, u103, u104, u105, u106, u107, u108, u109, u110, u111, u112, u113, u114, u115, u116, u117, u118, u119, u120, u121, u122, u123, u124, u125, u126, u127, u128, u129, u130, u131, u132, u133, u134, u135, u136, u137, u138, u139, u140, u141, u142, u143, u144, u145, u146, u147, u148, u149, u150, u151, u152, u153, u154, u155, u156, u157, u158, u159, u160, u161, u162, u163, u164, u165, u166, u167, u168, u169, u170, u171, u172, u173, u174, u175, u176, u177, u178, u179, u180, u181, u182, u183, u184, u185, u186, u187, u188, u189, u190, u191, u192, u193, u194, u195, u196, u197, u198, u199, u200, u201, u202, u203, u204, u205, u206, u207, u208, u209, u210, u211, u212, u213, u214, u215, u216, u217, u218, u219, u220, u221, u222, u223, u224, u225, u226], []⟩ w1 := by
  obtain ⟨rest, hrest⟩ : ∃ r, r = seqB stay3 := ⟨_, rfl⟩
  rw [← hrest] at hK
  conv at hrest => rhs; whnf
  subst hrest
  conv => arg 2; whnf
  have HB := Lib.hid hB
  have HP := Lib.hid hp
  have HS := Lib.hid hS
  have HR := Lib.hid hr
  have HXL := Lib.hid hr.len
  have hn4 : n ≤ 4 := hok.2.1
  have HXB : Hid (∀ x ∈ xs, 0 ≤ x ∧ x ≤ 4294967295) := Lib.hid (fun x hx => wf_bounds_u32 (hr.wf x hx))
  have HCH := Lib.hid (change_ok hS A2 n c xs (hr.below hB) hnc hok l [] 0 hfix hoth rfl)
  have HAT := Lib.hid hats
  have HBE := Lib.hid hbest
  clear hB hp hS hr hok hfix hoth hats hbest
  go_wp2_with fail
  refine HCH.out.mono ?_; rintro e w2 ⟨A3, G, rfl, -, hG, hS2, hK2⟩
  have HB2 := Lib.hid (below_keeps HB.out hK2 (Nat.le_refl _) (fun i hi => by rw [hi]; exact HP.out))
  have HS2 := Lib.hid hS2
  clear hG hS2 hK2 HCH
  go_wp2_with fail
  refine (best_at HS2.out bt q HBE.out).mono ?_; rintro e w3 ⟨rfl, hS3, hB3⟩
  have HB3 := Lib.hid (HB2.out.trans (hB3.mono HB2.out.size))
  have HS3 := Lib.hid hS3
  clear hS3 hB3
  have e0 : (bt == bt) = true := beq_self_eq_true bt
  have e1 : (q == q) = true := beq_self_eq_true q
  go_wp2_with fail
  refine (list_at HS3.out HAT.out HXL.out HXB.out (by omega)).mono ?_; rintro e w4 ⟨A4, rfl, hr4, hB4⟩
  have HB4 := Lib.hid (HB3.out.trans (hB4.mono HB3.out.size))
  have HR4 := Lib.hid hr4
  clear hr4 hB4
  go_wp2_with fail
  refine (same_trueS HR4.out (HR.out.below HB4.out)).mono ?_; rintro e w5 ⟨rfl, hB5⟩
  have HB5 := Lib.hid (HB4.out.trans (hB5.mono HB4.out.size))
  clear hB5
  go_wp2_with fail
  go_ret
  exact ⟨rfl, HB5.out⟩
end Go.Proofs.Ytanpbimamdjdfaa
