/- The last part of the law ParamsBodiesBack: its spots. (Printed by wip/mkbbt.py.); Values of several cells that equal themselves. -/
import Derived.Test.YtlcnjdpfijgcdaaZRParamsBodiesBack38
import Derived.Test.YtlcnjdpfijgcdaaZRParamsBodiesBack41
import Derived.Test.YtlcnjdpfijgcdaaZRParamsBodiesBack42
import Derived.Test.YtlcnjdpfijgcdaaZRParamsBodiesBack24
import Derived.Test.YtlcnjdpfijgcdaaZRParamsBodiesBack26
import Derived.Laws.StructEq
namespace Go.Proofs.Ytlcnjdpfijgcdaa
open Go.RowKit
set_option linter.unusedSimpArgs false
set_option linter.unusedVariables false

noncomputable def bodTail : Code := (Try.f3.body.bind (atRegion 15)).getD .skip
theorem same_true {A B : Option Addr} {n m c d : Nat} {xs : List Int} {w : World} (r : Rd w .u32 A n xs) (s : Rd w .u32 B m xs) :
    Calls Try.prog 23 #[.slice A n c, .slice B m d] w fun e w' => e = .returned (.bool true) ∧ Below w.heap.size w w' :=
  (samespots_any A B n m c d xs xs w r s).mono fun e w' ⟨q, he, hq, hB⟩ => by
    have : q = true := hq.2 rfl
    subst this
    exact ⟨he, hB⟩
theorem got_good {A : Option Addr} {n c : Nat} {bs xs : List Int} {w : World} {m : Nat} (r : Rd w .u8 A n bs) (l : n ≤ c) (hz : A = none → c = 0) (hok : GsOk bs n m) (hs : spList bs m = xs) :
    Calls Try.prog 21 #[.slice A n c] w fun e w' => ∃ g, e = .returned (.tuple #[.slice (some ⟨g, 0, none⟩) m m, .int .i64 0]) ∧ Rd w' .u32 (some ⟨g, 0, none⟩) m xs ∧ Below w.heap.size w w' :=
  (getspots_any A n c bs w r l hz).mono fun e w' ⟨h, hB⟩ => by
    rcases h with ⟨m', g, hg, _, he, hr⟩ | ⟨h, _⟩
    · obtain rfl : m' = m := by
        have h1 := hg.2.2.1
        have h2 := hok.2.2.1
        omega
      rw [hs] at hr
      exact ⟨g, he, hr, hB⟩
    · exact absurd ⟨m, hok⟩ h
theorem got_bad {A : Option Addr} {n c : Nat} {bs : List Int} {w : World} (r : Rd w .u8 A n bs) (l : n ≤ c) (hz : A = none → c = 0) (hno : ¬ ∃ m, GsOk bs n m) :
    Calls Try.prog 21 #[.slice A n c] w fun e w' => e = .returned (.tuple #[.slice none 0 0, .int .i64 4]) ∧ Below w.heap.size w w' :=
  (getspots_any A n c bs w r l hz).mono fun e w' ⟨h, hB⟩ => by
    rcases h with ⟨m', g, hg, _⟩ | ⟨_, h⟩
    · exact absurd ⟨m', hg⟩ hno
    · exact ⟨h, hB⟩
set_option maxRecDepth 100000 in
set_option maxHeartbeats 8000000 in
theorem bback_tail {K : Act → World → Prop} {u0 u2 u3 u4 u5 u6 u7 u8 u9 u10 u11 u12 u13 u14 u15 u16 u17 u18 u19 u20 u21 u22 u23 u24 u25 u26 u27 u28 u29 u30 u31 u32 u33 u34 u35 u36 u37 u38 u39 u40 u41 u42 u43 u44 u45 u46 u47 u48 u49 u50 u51 u52 u53 u54 u55 u56 u57 u58 u59 u60 u61 u62 u63 u64 u65 u66 u67 u68 u69 u70 u71 u72 u73 u74 u75 u76 u77 u78 u79 u80 u81 u82 u83 u84 u85 u86 u87 u88 u89 u90 u91 u92 u93 u94 u95 u96 u97 u98 u99 u100 u101 u102 u103 u104 u105 u106 u107 u108 u109 u110 u111 u112 u113 u114 u115 u116 u117 u118 u119 u120 u121 u122 u123 u124 u125 u126 u127 u128 u129 u130 u131 u132 u133 u134 u135 u136 u137 u138 u139 u140 u141 u142 u143 u144 u145 u146 u147 u148 u149 u150 u151 u152 u153 u154 u155 u156 u157 u158 u159 u160 u161 u162 u163 u164 u165 u166 u167 u168 u169 u170 u171 u172 u173 u174 u175 u176 u177 u178 u179 u180 u181 u182 u183 u184 u185 u186 u187 u188 u189 u190 u191 u192 u193 u194 u195 u196 u197 u198 u199 u200 u201 u202 u203 u204 u205 u206 u207 u208 u209 u210 : Value} {w W : World} {B n c : Nat} {A : Option Addr} {xs : List Int} {CS : List Value}
    (hK : ∀ a W, Code.wp Try.prog (seqB bodTail) (bodyPost Try.prog Try.f3 fun e w' => e = .returned (.bool true) ∧ Below w.heap.size w w') a W → K a W)
    (hB : Below w.heap.size w W) (hk : Blk W B 34 CS) (h2 : CS[2]? = some (.slice A n c)) (hr : Rd w .u32 A n xs) (hnc : n ≤ c) (hn : n ≤ 35184372087808) :
    Code.wp Try.prog (seqA bodTail) (Exit.then K (bodyPost Try.prog Try.f3 fun e w' => e = .returned (.bool true) ∧ Below w.heap.size w w')) ⟨#[u0, .pointer (some ⟨B, 0, none⟩), u2, u3, u4, u5, u6, u7, u8, u9, u10, u11, u12, u13, u14, u15, u16, u17, u18, u19, u20, u21, u22, u23, u24, u25, u26, u27, u28, u29, u30, u31, u32, u33, u34, u35, u36, u37, u38, u39, u40, u41, u42, u43, u44, u45, u46, u47, u48, u49, u50, u51, u52, u53, u54, u55, u56, u57, u58, u59, u60, u61, u62, u63, u64, u65, u66, u67, u68, u69, u70, u71, u72, u73, u74, u75, u76, u77, u78, u79, u80, u81, u82, u83, u84, u85, u86, u87, u88, u89, u90, u91, u92, u93, u94, u95, u96, u97, u98, u99, u100, u101, u102, u103, u104, u105, u106, u107, u108, u109, u110, u111, u112, u113, u114, u115, u116, u117, u118, u119, u120, u121, u122, u123, u124, u125, u126, u127, u128, u129, u130, u131, u132, u133, u134, u135, u136, u137, u138, u139, u140, u141, u142, u143, u144, u145, u146, u147, u148, u149, u150, u151, u152, u153, u154, u155, u156, u157, u158, u159, u160, u161, u162, u163, u164, u165, u166, u167, u168, u169, u170, u171, u172, u173, u174, u175, u176, u177, u178, u179, u180, u181, u182, u183, u184, u185, u186, u187, u188, u189, u190, u191, u192, u193, u194, u195, u196, u197, u198, u199, u200, u201, u202, u203, u204, u205, u206, u207, u208, u209, u210], []⟩ W := by
  obtain ⟨rest, hrest⟩ : ∃ r, r = seqB bodTail := ⟨_, rfl⟩
  rw [← hrest] at hK
  conv at hrest => rhs; whnf
  subst hrest
  conv => arg 2; whnf
  have HK0 := Lib.hid hk
  have H2 := Lib.hid h2
  have HR := Lib.hid hr
  have HN := Lib.hid hn
  have HB0 := Lib.hid hB
  have HPUT := Lib.hid (putspots_any A n c xs W (hr.below hB) hnc hn)
  have k2 : W.cell? ⟨B, 2, none⟩ = some (.slice A n c) := (hk.cell 2).trans h2
  clear hk h2 hr hn hB
  go_wp2_with fail
  clear k2
  refine HPUT.out.mono ?_; rintro e v1 ⟨(⟨hok, G, hG, rfl, hk⟩ | ⟨hno, rfl⟩), hBv1⟩
  · have hle : n ≤ 4 := hok.2.1
    have HV1 := Lib.hid (HB0.out.trans (hBv1.mono HB0.out.size))
    have HKV := Lib.hid (HK0.out.below hBv1 HK0.out.lt)
    have hxb : ∀ z ∈ xs, 0 ≤ z ∧ z ≤ 4294967295 := fun z hz => wf_bounds_u32 (HR.out.wf z hz)
    have hGS := spots_got HR.out.len hxb hok
    have hsb := spots_back (r := []) HR.out.len hxb
    rw [List.append_nil] at hsb
    have hpl := spPre_length n (atL xs) n
    have hpb := spPre_byte n (atL xs) (by omega) n
    have HNOT := Lib.hid (spots_not (n := n) (f := atL xs) (r := [0]))
    obtain ⟨bsx, hbsx⟩ : ∃ l, spPre n (atL xs) n = l := ⟨_, rfl⟩
    rw [hbsx] at hk hGS hsb hpl hpb HNOT
    obtain ⟨L, hL⟩ : ∃ L, 1 + 4 * n = L := ⟨_, rfl⟩
    have HGS := Lib.hid hGS
    have HSB := Lib.hid hsb
    have HPB := Lib.hid hpb
    have HR1 := Lib.hid (rd_of_blk hk hpb (hpl.trans hL) (by omega))
    rw [hL] at HGS HNOT ⊢
    have hL17 : L ≤ 17 := by omega
    have hL0 : 1 ≤ L := by omega
    clear hbsx hBv1 hG hk hxb hGS hsb hpl hpb hok hL
    have HG1 := Lib.hid (got_good (A := some ⟨G, 0, none⟩) (c := L) HR1.out (Nat.le_refl _) (by simp) HGS.out HSB.out)
    go_wp2_with fail
    refine HG1.out.mono ?_; rintro e v2 ⟨g2, rfl, hr2, hBv2⟩
    have HR2 := Lib.hid hr2
    have HV2 := Lib.hid (HV1.out.trans (hBv2.mono HV1.out.size))
    have HKV2 := Lib.hid (HKV.out.below hBv2 HKV.out.lt)
    have HR12 := Lib.hid (HR1.out.below hBv2)
    have HTW := Lib.hid (twin_any (some ⟨G, 0, none⟩) L L bsx v2 HR12.out (Nat.le_refl _) (by omega))
    clear hr2 hBv2
    go_wp2_with fail
    refine HTW.out.mono ?_; rintro e v3 ⟨g3, cap3, rfl, hc3, hm3, hg3, hlt3, ho3, hBv3⟩
    have hlb : bsx.length = L := HR12.out.len
    rw [hlb] at ho3 hc3 ⊢
    have HO3 := Lib.hid ho3
    have HV3 := Lib.hid (HV2.out.trans (hBv3.mono HV2.out.size))
    have HKV3 := Lib.hid (HKV2.out.below hBv3 HKV2.out.lt)
    have HRL3 := Lib.hid (HR2.out.below hBv3)
    have HSZ3 := Lib.hid hBv3.size
    have HBV3 := Lib.hid hBv3
    have HB32 := Lib.hid HKV2.out.lt
    have HR2B := Lib.hid HR2.out
    have HWV := Lib.hid HV2.out.size
    clear ho3 hBv3 hlb
    go_wp2_with (at_builtin; refine append_int (W := v3) v2.heap.size rfl _ _ 38 5 .u8 1 rfl Try.underlying38 info_u8n (by omega) (.slice (some ⟨g3, 0, none⟩) L cap3) L bsx 0 rfl rfl HO3.out HSZ3.out (by omega) ?_; intro z1 v4 ho4 hk4 hb4; obtain ⟨g4, c4, rfl, hc4, hg4, hlt4⟩ := own_some ho4 (by omega); have HO4 := Lib.hid ho4; have HK4 := Lib.hid hk4; clear ho4 hk4 hb4)
    have HR4 := Lib.hid (rd_own HO4.out (app_bytes HPB.out (by intro q hq; simp at hq; omega)) (by omega))
    have hmk : ∀ i, (Value.slice (some ⟨g3, 0, none⟩) L cap3).ownBlock = some i → v2.heap.size ≤ i := fun i hi => by simp [Value.ownBlock] at hi; omega
    have hB24 : Below v2.heap.size v3 v4 := HK4.out.to_below HSZ3.out hmk
    have HV4 := Lib.hid (HV3.out.trans (hB24.mono HWV.out))
    have HKV4 := Lib.hid (HKV3.out.below hB24 HB32.out)
    have HRL4 : Hid (Rd v4 .u32 (some ⟨g2, 0, none⟩) n xs) := Lib.hid (HR2B.out.below (HBV3.out.trans hB24))
    have HG2 := Lib.hid (got_bad (A := some ⟨g4, 0, none⟩) (c := c4) HR4.out hc4 (by simp) HNOT.out)
    clear hmk hB24
    go_wp2_with fail
    refine HG2.out.mono ?_; rintro e v5 ⟨rfl, hBv5⟩
    have HV5 := Lib.hid (HV4.out.trans (hBv5.mono HV4.out.size))
    have HKV5 := Lib.hid (HKV4.out.below hBv5 HKV4.out.lt)
    have HRL5 := Lib.hid (HRL4.out.below hBv5)
    have k2 : v5.cell? ⟨B, 2, none⟩ = some (.slice A n c) := (HKV5.out.cell 2).trans H2.out
    have HSM := Lib.hid (same_true (c := n) (d := c) HRL5.out (HR.out.below HV5.out))
    clear hBv5
    go_wp2_with fail
    clear k2
    refine HSM.out.mono ?_; rintro e v6 ⟨rfl, hBv6⟩
    have HV6 := Lib.hid (HV5.out.trans (hBv6.mono HV5.out.size))
    clear hBv6
    go_wp2_with fail
    refine (lives_true v6).mono ?_; rintro e v7 ⟨rfl, hBv7⟩
    have HV7 := Lib.hid (HV6.out.trans (hBv7.mono HV6.out.size))
    clear hBv7
    go_wp2_with fail
    go_ret
    exact ⟨rfl, HV7.out⟩
  · have HV1 := Lib.hid (HB0.out.trans (hBv1.mono HB0.out.size))
    clear hBv1 hno
    go_wp2_with fail
    refine (lives_true v1).mono ?_; rintro e v7 ⟨rfl, hBv7⟩
    have HV7 := Lib.hid (HV1.out.trans (hBv7.mono HV1.out.size))
    clear hBv7
    go_wp2_with fail
    go_ret
    exact ⟨rfl, HV7.out⟩
end Go.Proofs.Ytlcnjdpfijgcdaa

namespace Go.Proofs.Ytlcnjdpfijgcdaa
open Go.RowKit
set_option linter.unusedSimpArgs false
set_option linter.unusedVariables false
section
variable {P : Program}
theorem wpList_read {ops : Array Oper} {rest : List Oper} {o : Oper} {a : Act} {w : World} {Q : Exit → Act → World → Prop} {v : Value} (hw : Region.wanted o (yielded ops a.tmps) = true) (hr : (execOp a.eval o).run P w = .ok (.value v) w) (h : wpList P ops Q rest (a.put o.dst v) w) : wpList P ops Q (o :: rest) a w := wpList_want hw hr h
/-- To pick an operation, fast: 'with_reducible refine wpList_is (o := ..) ?_'. -/
theorem wpList_is {ops : Array Oper} {rest : List Oper} {o : Oper} {a : Act} {w : World} {Q : Exit → Act → World → Prop} (h : wpList P ops Q (o :: rest) a w) : wpList P ops Q (o :: rest) a w := h
theorem eqFields_self (w : World) (d : Nat) (xs : Array Value) : ∀ fs : List Field, (∀ f ∈ fs, ∃ v, (part f.type xs f.offset).run P w = .ok v w ∧ (Op.equalIn d f.type v v).run P w = .ok true w) → (Op.eqFields d xs xs fs).run P w = .ok true w
  | [], _ => by simp [Op.eqFields]
  | f :: fs, h => by
    obtain ⟨v, h1, h2⟩ := h f (by simp)
    have ih := eqFields_self w d xs fs (fun g hg => h g (by simp [hg]))
    simp only [Op.eqFields, Sem.run_ite]
    split
    · simp only [Sem.run_bind, h1, h2, Result.andThen_ok, Bool.not_true, Bool.false_eq_true, if_false]
      exact ih
    · exact ih
theorem exec_neqS {o : Oper} {a : Act} {w : World} {T T' : TypeId} {x y : Operand} (V : Array Value) (ho : o.op = .binOp .neq T x y T') (hx : a.eval x = .agg V) (hy : a.eval y = .agg V)
    (hm : P.eqGuardType P.depth T = false) (heq : (Op.equalIn 10000 T (.agg V) (.agg V)).run P w = .ok true w) : (execOp a.eval o).run P w = .ok (.value (.bool false)) w := by
  unfold execOp
  simp only [ho, hx, hy, Sem.run_bind, Sem.run_pure, run_eqGuard_agg w BinOp.neq T x y V V hm, Result.andThen_ok, run_neq_struct w T V V, heq]
  rfl
theorem part_agg (w : World) (t : TypeId) (d : TypeDesc) (hu : P.underlying t = some d) (hd : (match d with | .struct _ | .array _ _ => true | _ => false) = true) (n : Nat) (hs : (sizeOf t).run P w = .ok n w) (X V Y : List Value) (off : Nat) (ho : X.length = off) (hn : V.length = n) :
    (part t (X ++ (V ++ Y)).toArray off).run P w = .ok (.agg V.toArray) w := by
  subst ho hn
  have e : (X ++ (V ++ Y)).toArray.extract X.length (X.length + V.length) = V.toArray := by simp [List.extract_eq_take_drop]
  have hi : (isAgg t).run P w = .ok true w := by
    unfold isAgg
    simp only [Sem.run_bind, run_underlying hu, Result.andThen_ok, Sem.run_pure]
    split at hd <;> first | rfl | cases hd
  unfold part
  simp only [Sem.run_bind, hi, Result.andThen_ok, if_true, hs, Sem.run_pure, e]
end
theorem size_u8e : ∀ w, (sizeOf 5).run Try.prog w = .ok 1 w := fun w => by kernel_rfl
theorem size_u64e : ∀ w, (sizeOf 24).run Try.prog w = .ok 1 w := fun w => by kernel_rfl
theorem eq_num (d : Nat) (f : List Int) (hf : f.length = 4) (w : World) : Sem.run Try.prog (Op.equalIn (d + 2) 30 (.agg (f.map (Value.int .u64)).toArray) (.agg (f.map (Value.int .u64)).toArray)) w = .ok true w := by
  have := run_equalIn_ints (P := Try.prog) w d 30 24 4 .u64 Try.underlying30 Try.underlying24 size_u64e f f hf hf
  simpa using this
theorem eq_sum (d : Nat) (f : List Int) (hf : f.length = 32) (w : World) : Sem.run Try.prog (Op.equalIn (d + 2) 26 (.agg (f.map (Value.int .u8)).toArray) (.agg (f.map (Value.int .u8)).toArray)) w = .ok true w := by
  have := run_equalIn_ints (P := Try.prog) w d 26 5 32 .u8 Try.underlying26 Try.underlying5 size_u8e f f hf hf
  simpa using this
theorem eq_sig (d : Nat) (f g : List Int) (hf : f.length = 4) (hg : g.length = 4) (w : World) : Sem.run Try.prog (Op.equalIn (d + 3) 32 (.agg ((f ++ g).map (Value.int .u64)).toArray) (.agg ((f ++ g).map (Value.int .u64)).toArray)) w = .ok true w := by
  rw [run_equalIn_struct w (d + 2) 32 _ _ (by kernel_rfl) (by kernel_rfl)]
  refine eqFields_self w (d + 2) _ _ ?_
  have hs : (sizeOf 30).run Try.prog w = .ok 4 w := by kernel_rfl
  have p1 := part_agg (P := Try.prog) w 30 _ Try.underlying30 rfl 4 hs [] (f.map (Value.int .u64)) (g.map (Value.int .u64)) 0 rfl (by simp [hf])
  have p2 := part_agg (P := Try.prog) w 30 _ Try.underlying30 rfl 4 hs (f.map (Value.int .u64)) (g.map (Value.int .u64)) [] 4 (by simp [hf]) (by simp [hg])
  rw [List.nil_append, ← List.map_append] at p1
  rw [List.append_nil, ← List.map_append] at p2
  intro x hx
  have hfs : (Try.prog.fieldsOf 32).toList.map (fun f => (f.type, f.offset)) = [(30, 0), (30, 4)] := by kernel_rfl
  have hm := List.mem_map_of_mem (f := fun f : Field => (f.type, f.offset)) hx
  rw [hfs] at hm
  simp only [List.mem_cons, Prod.mk.injEq, List.not_mem_nil, or_false] at hm
  rcases hm with ⟨h1, h2⟩ | ⟨h1, h2⟩
  · rw [h1, h2]; exact ⟨_, p1, eq_num d f hf w⟩
  · rw [h1, h2]; exact ⟨_, p2, eq_num d g hg w⟩
theorem eq_puz (d : Nat) (x y : Int) (f : List Int) (hf : f.length = 32) (w : World) : Sem.run Try.prog (Op.equalIn (d + 3) 28 (.agg ([Value.int .u8 x, Value.int .u64 y] ++ f.map (Value.int .u8)).toArray) (.agg ([Value.int .u8 x, Value.int .u64 y] ++ f.map (Value.int .u8)).toArray)) w = .ok true w := by
  rw [run_equalIn_struct w (d + 2) 28 _ _ (by kernel_rfl) (by kernel_rfl)]
  refine eqFields_self w (d + 2) _ _ ?_
  have hs : (sizeOf 26).run Try.prog w = .ok 32 w := by kernel_rfl
  have p2 := part_agg (P := Try.prog) w 26 _ Try.underlying26 rfl 32 hs [Value.int .u8 x, Value.int .u64 y] (f.map (Value.int .u8)) [] 2 rfl (by simp [hf])
  rw [List.append_nil] at p2
  intro z hx
  have hfs : (Try.prog.fieldsOf 28).toList.map (fun f => (f.type, f.offset)) = [(5, 0), (24, 1), (26, 2)] := by kernel_rfl
  have hm := List.mem_map_of_mem (f := fun f : Field => (f.type, f.offset)) hx
  rw [hfs] at hm
  simp only [List.mem_cons, Prod.mk.injEq, List.not_mem_nil, or_false] at hm
  rcases hm with ⟨h1, h2⟩ | ⟨h1, h2⟩ | ⟨h1, h2⟩
  · rw [h1, h2]; exact ⟨.int .u8 x, by simp [part, isAgg, run_underlying Try.underlying5], by rw [run_equalIn_int w (d + 1) 5 .u8 .u8 x x Try.underlying5]; simp⟩
  · rw [h1, h2]; exact ⟨.int .u64 y, by simp [part, isAgg, run_underlying Try.underlying24], by rw [run_equalIn_int w (d + 1) 24 .u64 .u64 y y Try.underlying24]; simp⟩
  · rw [h1, h2]; exact ⟨_, p2, eq_sum d f hf w⟩
theorem nog_num : Try.prog.eqGuardType Try.prog.depth 30 = false := by kernel_rfl
theorem nog_sum : Try.prog.eqGuardType Try.prog.depth 26 = false := by kernel_rfl
theorem nog_sig : Try.prog.eqGuardType Try.prog.depth 32 = false := by kernel_rfl
theorem nog_puz : Try.prog.eqGuardType Try.prog.depth 28 = false := by kernel_rfl
end Go.Proofs.Ytlcnjdpfijgcdaa
