/- The walk over SHA-256: a block is taken in: the eight numbers behind it; The walk over SHA-256: how the taking in of a block begins. (Printed by wip/mksha7.py.). -/
import Derived.Test.YtadpgodmkodgdaaXRGuidesRoom9
import Derived.Test.YtadpgodmkodgdaaXRGuidesRoom10
namespace Go.Proofs.Ytadpgodmkodgdaa
open Go.RowKit
set_option linter.unusedSimpArgs false
set_option linter.unusedVariables false

/-- A round. -/
def rndL (l : List Int) (k v : Int) : List Int :=
  match l with
  | [a, b, c, d, e, f, g, h] => [IntKind.u32.wrap (sumP e f g h k v + sumQ a b c), a, b, c, IntKind.u32.wrap (d + sumP e f g h k v), e, f, g]
  | l => l
def roundsL (s bs : List Int) : Nat → List Int
  | 0 => s
  | t + 1 => rndL (roundsL s bs t) (addsL.getD t 0) (wordV bs t)
def afterL (s bs : List Int) : List Int := List.zipWith (fun x y => IntKind.u32.wrap (x + y)) (roundsL s bs 64) s
structure Eight (l : List Int) : Prop where
  len : l.length = 8
  num : ∀ x ∈ l, U32 x
theorem Eight.parts {l : List Int} (h : Eight l) : ∃ a b c d e f g i, l = [a, b, c, d, e, f, g, i] ∧ U32 a ∧ U32 b ∧ U32 c ∧ U32 d ∧ U32 e ∧ U32 f ∧ U32 g ∧ U32 i := by
  obtain ⟨hl, hn⟩ := h
  match l, hl with
  | [a, b, c, d, e, f, g, i], _ => exact ⟨a, b, c, d, e, f, g, i, rfl, hn _ (by simp), hn _ (by simp), hn _ (by simp), hn _ (by simp), hn _ (by simp), hn _ (by simp), hn _ (by simp), hn _ (by simp)⟩
theorem rndL_eight {l : List Int} (h : Eight l) (k v : Int) : Eight (rndL l k v) := by
  obtain ⟨a, b, c, d, e, f, g, i, rfl, ha, hb, hc, hd, he, hf, hg, hi⟩ := h.parts
  refine ⟨rfl, fun x hx => ?_⟩
  simp only [rndL, List.mem_cons, List.not_mem_nil, or_false] at hx
  rcases hx with rfl | rfl | rfl | rfl | rfl | rfl | rfl | rfl <;> (first | assumption | exact u32_wrap _)
theorem roundsL_eight {s : List Int} (h : Eight s) (bs : List Int) (t : Nat) : Eight (roundsL s bs t) := by
  induction t with
  | zero => exact h
  | succ t ih => exact rndL_eight ih _ _
theorem afterL_eight {s : List Int} (h : Eight s) (bs : List Int) : Eight (afterL s bs) := by
  refine ⟨by rw [afterL, List.length_zipWith, (roundsL_eight h bs 64).len, h.len]; rfl, fun x hx => ?_⟩
  obtain ⟨i, hi⟩ := List.mem_iff_getElem?.1 hx
  rw [afterL, List.getElem?_zipWith] at hi
  split at hi
  · injection hi with hi; rw [← hi]; exact u32_wrap _
  · cases hi
theorem size_u32w : (Try.prog.info? 24).map (·.size) = some 1 := by kernel_rfl
theorem size_e8 : (Try.prog.info? 134).map (·.size) = some 8 := by kernel_rfl
def zE8 : List Value := (List.replicate 8 (0 : Int)).map (Value.int .u32)
theorem alloc_e8 (W : World) (o : Oper) (ho : o.op = .alloc 134) (ev : Operand → Value) : (execOp ev o).run Try.prog W = .ok (.value (.pointer (some ⟨W.heap.size, 0, none⟩))) (W.alloc (.cells zE8.toArray 134)) := by
  obtain ⟨d, op, t, p, af, g⟩ := o
  simp only at ho
  subst ho
  kernel_rfl
theorem run_index_cell {P : Program} (w : World) (t e : TypeId) (n : Nat) (F : List Value) (x : Value) (k : Nat) (ht : P.underlying t = some (.array n e)) (hag : (isAgg e).run P w = .ok false w) (hsz : (sizeOf e).run P w = .ok 1 w) (hk : k < n)
    (hx : F[k]? = some x) : (Instr.index t (.agg F.toArray) (.int .i64 (k : Int))).run P w = .ok x w := by
  have h0 : (0 : Int) ≤ (k : Int) ∧ (k : Int) < (n : Int) := by omega
  have hk' : ¬ n ≤ k := by omega
  simp [Instr.index, asIntOf, run_underlying ht, part, hag, hsz, h0, hk', hx]
theorem index_adds (W : World) (t : Nat) (ht : t < 64) : (Instr.index 146 (.agg (addsL.map (Value.int .u32)).toArray) (.int .i64 (t : Int))).run Try.prog W = .ok (.int .u32 (addsL.getD t 0)) W :=
  run_index_cell W 146 24 64 _ _ t Try.underlying146 (by kernel_rfl) (by kernel_rfl) ht (by rw [List.getElem?_map, List.getD_eq_getElem?_getD, List.getElem?_eq_getElem (by simpa [addsL] using ht)]; rfl)
noncomputable def af7 : Code := (Try.f74.body.bind (atRegion 7)).getD .skip
set_option maxRecDepth 100000 in
set_option maxHeartbeats 400000 in
theorem after_r7 {K : Act → World → Prop} {POST : Exit → Act → World → Prop} {u0 u1 u2 u3 u4 u6 u7 u8 u9 u10 u11 u12 u13 u14 u15 u16 u17 u18 u19 u20 u21 u22 u23 u24 u25 u26 u27 u28 u29 u30 u31 u32 u33 u34 u35 u36 u37 u38 u39 u40 u41 u42 u43 u44 u45 u46 u47 u48 u49 u50 u51 u52 u53 u54 u55 u56 u57 u58 u59 u60 u61 u62 u63 u64 u65 u66 u67 u68 u69 u70 u71 u72 u73 u74 u75 u76 u77 u78 u79 u80 u81 u82 u83 u84 u85 u86 u87 u88 u89 : Value} {L : Nat} {a b c d e f g h : Int} {W : World}
    (hL : Blk W L 134 ([a, b, c, d, e, f, g, h].map (Value.int .u32)))
    (hK : ∀ v64 v65 v66, ∀ W', Blk W' L 134 ([a, a, b, c, d, e, f, g].map (Value.int .u32)) → Keeps (· = L) W W' →
      K ⟨(u0 :: u1 :: u2 :: u3 :: u4 :: (.pointer (some ⟨L, 0, none⟩)) :: u6 :: u7 :: u8 :: u9 :: u10 :: u11 :: u12 :: u13 :: u14 :: u15 :: u16 :: u17 :: u18 :: u19 :: u20 :: u21 :: u22 :: u23 :: u24 :: u25 :: u26 :: u27 :: u28 :: u29 :: u30 :: u31 :: u32 :: u33 :: u34 :: u35 :: u36 :: u37 :: u38 :: u39 :: u40 :: u41 :: u42 :: u43 :: u44 :: u45 :: u46 :: u47 :: u48 :: u49 :: u50 :: u51 :: u52 :: u53 :: u54 :: u55 :: u56 :: u57 :: u58 :: u59 :: u60 :: u61 :: u62 :: u63 :: v64 :: v65 :: v66 :: u67 :: u68 :: u69 :: u70 :: u71 :: u72 :: u73 :: u74 :: u75 :: u76 :: u77 :: u78 :: u79 :: u80 :: u81 :: u82 :: u83 :: u84 :: u85 :: u86 :: u87 :: u88 :: u89 :: []).toArray, []⟩ W') :
    Code.wp Try.prog (seqA af7) (Exit.then K POST) ⟨(u0 :: u1 :: u2 :: u3 :: u4 :: (.pointer (some ⟨L, 0, none⟩)) :: u6 :: u7 :: u8 :: u9 :: u10 :: u11 :: u12 :: u13 :: u14 :: u15 :: u16 :: u17 :: u18 :: u19 :: u20 :: u21 :: u22 :: u23 :: u24 :: u25 :: u26 :: u27 :: u28 :: u29 :: u30 :: u31 :: u32 :: u33 :: u34 :: u35 :: u36 :: u37 :: u38 :: u39 :: u40 :: u41 :: u42 :: u43 :: u44 :: u45 :: u46 :: u47 :: u48 :: u49 :: u50 :: u51 :: u52 :: u53 :: u54 :: u55 :: u56 :: u57 :: u58 :: u59 :: u60 :: u61 :: u62 :: u63 :: u64 :: u65 :: u66 :: u67 :: u68 :: u69 :: u70 :: u71 :: u72 :: u73 :: u74 :: u75 :: u76 :: u77 :: u78 :: u79 :: u80 :: u81 :: u82 :: u83 :: u84 :: u85 :: u86 :: u87 :: u88 :: u89 :: []).toArray, []⟩ W := by
  conv => arg 2; whnf
  have HL := Lib.hid hL
  have HKK := Lib.hid hK
  clear hL hK
  refine wp_region_noPanic ?_
  have hsrc : ∀ j v, ([a, b, c, d, e, f, g].map (Value.int .u32))[j]? = some v → W.drew.cell? ((⟨L, 0, none⟩ : Addr).add j) = some v := fun j v hv => by
    have hj : j < 7 := by have := (List.getElem?_eq_some_iff.1 hv).1; simpa using this
    have ha : (⟨L, 0, none⟩ : Addr).add j = ⟨L, j, none⟩ := by unfold Addr.add; split <;> simp_all
    rw [ha, HL.out.drew.cell j, ← hv]
    match j, hj with
    | 0, _ => rfl
    | 1, _ => rfl
    | 2, _ => rfl
    | 3, _ => rfl
    | 4, _ => rfl
    | 5, _ => rfl
    | 6, _ => rfl
  have HSRC := Lib.hid hsrc
  clear hsrc
  go_region_law (refine step_copy rfl _ _ 149 149 rfl 24 Try.underlying149 size_u32w (some ⟨L, 1, none⟩) (some ⟨L, 0, none⟩) 7 7 7 8 (by simp [Act.eval, Act.put]) (by simp [Act.eval, Act.put]) L 1 _ 134 HL.out.drew ([a, b, c, d, e, f, g].map (Value.int .u32)) rfl (fun _ => ⟨rfl, _, rfl, HSRC.out⟩) (by simp) (by simp [Value.oneCell']) ?_; intro w3 hb3 hk3)
  refine NoPanic.normal ?_
  exact HKK.out _ _ _ _ hb3.out (Keeps.trans (Keeps.refl _ W).drew hk3)
end Go.Proofs.Ytadpgodmkodgdaa

namespace Go.Proofs.Ytadpgodmkodgdaa
open Go.RowKit
set_option linter.unusedSimpArgs false
set_option linter.unusedVariables false

theorem step_allocT {P : Program} {ops : Array Oper} {o : Oper} {a : Act} {w : World} {Q : Exit → Act → World → Prop} {K : Act → World → Prop} {E : Prop} (hgd : o.guard = none) (T : TypeId) (Z : List Value) (hal : ∀ W, (execOp a.eval o).run P W = .ok (.value (.pointer (some ⟨W.heap.size, 0, none⟩))) (W.alloc (.cells Z.toArray T)))
    (h : ∀ w', Hid (Blk w' w.heap.size T Z) → Hid (Below w.heap.size w w') → K (a.put o.dst (.pointer (some ⟨w.heap.size, 0, none⟩))) w') : if Region.wanted o (yielded ops a.tmps) = true then Oper.wp P o a w K Q else E := by
  have hw : Region.wanted o (yielded ops a.tmps) = true := by simp [Region.wanted, hgd]
  rw [if_pos hw]
  unfold Oper.wp
  rw [hal w]
  exact h _ (Lib.hid (Blk.new w T Z)) (Lib.hid ((Below.refl _ w).alloc (Nat.le_refl _) _))
noncomputable def af1 : Code := (Try.f74.body.bind (atRegion 1)).getD .skip
set_option maxRecDepth 100000 in
set_option maxHeartbeats 400000 in
theorem after_r1 {K : Act → World → Prop} {POST : Exit → Act → World → Prop} {u0 u3 u4 u5 u6 u7 u8 u9 u10 u11 u12 u13 u14 u15 u16 u17 u18 u19 u20 u21 u22 u23 u24 u25 u26 u27 u28 u29 u30 u31 u32 u33 u34 u35 u36 u37 u38 u39 u40 u41 u42 u43 u44 u45 u46 u47 u48 u49 u50 u51 u52 u53 u54 u55 u56 u57 u58 u59 u60 u61 u62 u63 u64 u65 u66 u67 u68 u69 u70 u71 u72 u73 u74 u75 u76 u77 u78 u79 u80 u81 u82 u83 u84 u85 u86 u87 u88 u89 : Value} {R X o : Nat} {C : List Value} {bs : List Int} {W : World}
    (hC : Blk W R 134 C) (hcl : C.length = 8) (hone : ∀ v ∈ C, v.oneCell' = true) (hr : Rd W .u8 (some ⟨X, o, none⟩) 64 bs)
    (hK : ∀ v13 v14 v15, ∀ L N T B W', Blk W' L 134 C → NumS W' N T B X o bs 0 → Below W.heap.size W W' → W.heap.size ≤ L → W.heap.size ≤ N → W.heap.size ≤ T → W.heap.size ≤ B → L ≠ N → L ≠ T → L ≠ B →
      K ⟨(u0 :: (.pointer (some ⟨X, o, none⟩)) :: (.pointer (some ⟨R, 0, none⟩)) :: u3 :: u4 :: (.pointer (some ⟨L, 0, none⟩)) :: (.func (.func 80) #[] #[.pointer (some ⟨N, 0, none⟩), .pointer (some ⟨T, 0, none⟩), .pointer (some ⟨B, 0, none⟩)]) :: u7 :: u8 :: u9 :: u10 :: u11 :: u12 :: v13 :: v14 :: v15 :: u16 :: u17 :: u18 :: u19 :: u20 :: u21 :: u22 :: u23 :: u24 :: u25 :: u26 :: u27 :: u28 :: u29 :: u30 :: u31 :: u32 :: u33 :: u34 :: u35 :: u36 :: u37 :: u38 :: u39 :: u40 :: u41 :: u42 :: u43 :: u44 :: u45 :: u46 :: u47 :: u48 :: u49 :: u50 :: u51 :: u52 :: u53 :: u54 :: u55 :: u56 :: u57 :: u58 :: u59 :: u60 :: u61 :: u62 :: u63 :: u64 :: u65 :: u66 :: u67 :: u68 :: u69 :: u70 :: u71 :: u72 :: u73 :: u74 :: u75 :: u76 :: u77 :: u78 :: u79 :: u80 :: u81 :: u82 :: u83 :: u84 :: u85 :: u86 :: u87 :: u88 :: u89 :: []).toArray, []⟩ W') :
    Code.wp Try.prog (seqA af1) (Exit.then K POST) ⟨(u0 :: (.pointer (some ⟨X, o, none⟩)) :: (.pointer (some ⟨R, 0, none⟩)) :: u3 :: u4 :: u5 :: u6 :: u7 :: u8 :: u9 :: u10 :: u11 :: u12 :: u13 :: u14 :: u15 :: u16 :: u17 :: u18 :: u19 :: u20 :: u21 :: u22 :: u23 :: u24 :: u25 :: u26 :: u27 :: u28 :: u29 :: u30 :: u31 :: u32 :: u33 :: u34 :: u35 :: u36 :: u37 :: u38 :: u39 :: u40 :: u41 :: u42 :: u43 :: u44 :: u45 :: u46 :: u47 :: u48 :: u49 :: u50 :: u51 :: u52 :: u53 :: u54 :: u55 :: u56 :: u57 :: u58 :: u59 :: u60 :: u61 :: u62 :: u63 :: u64 :: u65 :: u66 :: u67 :: u68 :: u69 :: u70 :: u71 :: u72 :: u73 :: u74 :: u75 :: u76 :: u77 :: u78 :: u79 :: u80 :: u81 :: u82 :: u83 :: u84 :: u85 :: u86 :: u87 :: u88 :: u89 :: []).toArray, []⟩ W := by
  conv => arg 2; whnf
  have hX : X < W.heap.size := by
    obtain ⟨b, off, e, hb, _⟩ := hr.row (by omega)
    injection e with e
    injection e with e1 e2
    rw [e1]; exact hb
  have HAL := Lib.hid alloc_e8
  have HZL : Hid (zE8.length = 8) := Lib.hid rfl
  have HSZ : Hid ((Try.prog.info? 134).map (·.size) = some C.length) := Lib.hid (by rw [hcl]; exact size_e8)
  have HU := Lib.hid Try.underlying134
  generalize zE8 = Z at HAL HZL
  have HCL := Lib.hid hcl
  have HONE := Lib.hid hone
  have HXL := Lib.hid hX
  have HB0 : Hid (Below W.heap.size W W.drew) := Lib.hid ⟨rfl, rfl, rfl, Nat.le_refl _, fun _ _ => rfl⟩
  have HC0 : Hid (Blk W.drew R 134 C) := Lib.hid hC.drew
  have HR0 := Lib.hid (hr.below HB0.out)
  have HBL := Lib.hid hC.lt
  have HKK := Lib.hid hK
  clear hC hcl hone hr hX hK
  refine wp_region_noPanic ?_
  refine wp_region_held_drew (S := fun w' => w'.rangeAt R 0 C) (by kernel_rfl) HC0.out.range (fun hHeld => ?_)
  refine wpAnyH_take (i := 0) (oi := ⟨some 13, _, _, _, _, _⟩) (v := .agg C.toArray) rfl (by kernel_rfl) (by kernel_rfl) (by kernel_rfl) (fun _ _ _ h => False.elim h) ?_ (by assumption) ?_
  · refine yieldsIf_load_mid ?_ 134 _ rfl R 0 rfl C _ ?_ HU.out rfl HSZ.out
    · rfl
    · (intro w hSw; (try dsimp only at hSw); go_split_ands; assumption)
  (try simp only [Act.put, List.setIfInBounds_toArray, List.set_cons_zero, List.set_cons_succ])
  refine wpAnyH_take (i := 1) (oi := ⟨some 14, _, _, _, _, _⟩) (v := ?_) rfl (by kernel_rfl) (by kernel_rfl) (by kernel_rfl) (fun _ _ _ h => False.elim h) (Or.inl ⟨by rfl, ?_⟩) (by assumption) ?_
  rotate_left
  · intro w hSw
    (try dsimp only at hSw)
    go_simp
    all_goals with_reducible rfl
  (try simp only [Act.put, List.setIfInBounds_toArray, List.set_cons_zero, List.set_cons_succ])
  refine wpAnyH_ready (rs := [2, 3]) (by kernel_rfl) (by simp) ?_
  refine AllReadyH.cons (o := ⟨some 15, _, _, _, _, _⟩) rfl (fun K hK => ?_) ?_
  rotate_left
  refine AllReadyH.cons (o := ⟨some 5, _, _, _, _, _⟩) rfl (fun K hK => ?_) AllReadyH.nil
  · refine step_allocT rfl 134 Z (fun W => HAL.out W _ rfl _) ?_
    intro w03 HK1 HB1
    obtain ⟨L, hL⟩ : ∃ S, (W.drew).heap.size = S := ⟨_, rfl⟩
    rw [hL] at HK1 ⊢
    have HSL : Hid (W.heap.size ≤ L) := Lib.hid (by have := HB0.out.size; rw [← hL]; exact this)
    have HL03 := HK1
    have HB03 := Lib.hid (HB0.out.trans (HB1.out.mono HB0.out.size))
    have HC03 := Lib.hid (HC0.out.below HB1.out HC0.out.lt)
    have HR03 := Lib.hid (HR0.out.below HB1.out)
    clear HK1 HB1 hL
    refine hK.out _ _ (HC03.out.range) (fun hHeld => ?_)
    clear hK K
    (try simp only [Act.put, List.setIfInBounds_toArray, List.set_cons_zero, List.set_cons_succ])
    refine wpAnyH_ready (rs := [2]) (by kernel_rfl) (by simp) ?_
    refine AllReadyH.cons (o := ⟨some 15, _, _, _, _, _⟩) rfl (fun K hK => ?_) AllReadyH.nil
    · go_simp
      refine (numbers_any X o bs _ HR03.out).mono ?_
      rintro e1 w032 hA
      obtain ⟨N, T, B, rfl, hn, hN, hT, hB, hb⟩ := hA
      dsimp only
      have HSN := Lib.hid (Nat.le_trans HB03.out.size hN)
      have HST := Lib.hid (Nat.le_trans HB03.out.size hT)
      have HSB := Lib.hid (Nat.le_trans HB03.out.size hB)
      have HN032 := Lib.hid hn
      have HB032 := Lib.hid (HB03.out.trans (hb.mono HB03.out.size))
      have HC032 := Lib.hid (HC03.out.below hb HC03.out.lt)
      have HR032 := Lib.hid (HR03.out.below hb)
      have HL032 := Lib.hid (HL03.out.below hb HL03.out.lt)
      have HLN := Lib.hid (show L ≠ N by have := HL03.out.lt; omega)
      have HLT := Lib.hid (show L ≠ T by have := HL03.out.lt; omega)
      have HLB := Lib.hid (show L ≠ B by have := HL03.out.lt; omega)
      clear hn hN hT hB hb
      refine hK.out _ _ (HC032.out.range) (fun hHeld => ?_)
      clear hK K
      (try simp only [Act.put, List.setIfInBounds_toArray, List.set_cons_zero, List.set_cons_succ])
      refine wpAnyH_ready (rs := [4]) (by kernel_rfl) (by simp) ?_
      refine AllReadyH.cons (o := ⟨none, _, _, _, _, _⟩) rfl (fun K hK => ?_) AllReadyH.nil
      · refine step_overT rfl 134 _ _ rfl L C Z 134 rfl rfl HL032.out (by rw [HCL.out, HZL.out]) HSZ.out HONE.out ?_
        intro w0324 HK1 hk1
        have HL0324 := HK1
        have HB0324 := Lib.hid (below_keeps HB032.out hk1.out (Nat.le_refl _) (fun i hi => by rw [hi]; exact HSL.out))
        have HC0324 := Lib.hid (HC032.out.keep hk1.out (fun h => by have := HBL.out; have := HSL.out; omega))
        have HR0324 := Lib.hid (rd_keepX HR032.out hk1.out (fun h => by have := HXL.out; have := HSL.out; omega))
        have HN0324 := Lib.hid (HN032.out.keep hk1.out (fun h => HLN.out h.symm) (fun h => HLT.out h.symm) (fun h => by exact HLB.out h.symm) (fun h => by have := HXL.out; have := HSL.out; omega))
        clear HK1 hk1
        refine hK.out _ _ (HC0324.out.range) (fun hHeld => ?_)
        clear hK K
        (try simp only [Act.put, List.setIfInBounds_toArray, List.set_cons_zero, List.set_cons_succ])
        refine wpAnyH_take (i := 5) (oi := ⟨some 6, _, _, _, _, _⟩) (v := ?_) rfl (by kernel_rfl) (by kernel_rfl) (by kernel_rfl) (fun _ _ _ h => False.elim h) (Or.inl ⟨by rfl, ?_⟩) (by assumption) ?_
        rotate_left
        · intro w hSw
          (try dsimp only at hSw)
          go_simp
          all_goals with_reducible rfl
        (try simp only [Act.put, List.setIfInBounds_toArray, List.set_cons_zero, List.set_cons_succ])
        refine wpAnyH_done (by kernel_rfl) ?_ _
        refine NoPanic.normal ?_
        exact HKK.out _ _ _ L N T B _ HL0324.out HN0324.out HB0324.out HSL.out HSN.out HST.out HSB.out HLN.out HLT.out HLB.out
  · go_simp
    refine (numbers_any X o bs _ HR0.out).mono ?_
    rintro e1 w02 hA
    obtain ⟨N, T, B, rfl, hn, hN, hT, hB, hb⟩ := hA
    dsimp only
    have HSN := Lib.hid (Nat.le_trans HB0.out.size hN)
    have HST := Lib.hid (Nat.le_trans HB0.out.size hT)
    have HSB := Lib.hid (Nat.le_trans HB0.out.size hB)
    have HN02 := Lib.hid hn
    have HB02 := Lib.hid (HB0.out.trans (hb.mono HB0.out.size))
    have HC02 := Lib.hid (HC0.out.below hb HC0.out.lt)
    have HR02 := Lib.hid (HR0.out.below hb)
    clear hn hN hT hB hb
    refine hK.out _ _ (HC02.out.range) (fun hHeld => ?_)
    clear hK K
    (try simp only [Act.put, List.setIfInBounds_toArray, List.set_cons_zero, List.set_cons_succ])
    refine wpAnyH_ready (rs := [3]) (by kernel_rfl) (by simp) ?_
    refine AllReadyH.cons (o := ⟨some 5, _, _, _, _, _⟩) rfl (fun K hK => ?_) AllReadyH.nil
    · refine step_allocT rfl 134 Z (fun W => HAL.out W _ rfl _) ?_
      intro w023 HK1 HB1
      obtain ⟨L, hL⟩ : ∃ S, (w02).heap.size = S := ⟨_, rfl⟩
      rw [hL] at HK1 ⊢
      have HSL : Hid (W.heap.size ≤ L) := Lib.hid (by have := HB02.out.size; rw [← hL]; exact this)
      have HL023 := HK1
      have HB023 := Lib.hid (HB02.out.trans (HB1.out.mono HB02.out.size))
      have HC023 := Lib.hid (HC02.out.below HB1.out HC02.out.lt)
      have HR023 := Lib.hid (HR02.out.below HB1.out)
      have HN023 := Lib.hid (HN02.out.keep (M := fun _ => False) (Keeps.of_below HB1.out) (fun h => h) (fun h => h) (fun h => h) (fun h => h))
      have HLN := Lib.hid (show L ≠ N by have := HN02.out.at_.row.lt; omega)
      have HLT := Lib.hid (show L ≠ T by have := HN02.out.at_.cnt.lt; omega)
      have HLB := Lib.hid (show L ≠ B by have := HN02.out.at_.box.lt; omega)
      clear HK1 HB1 hL
      refine hK.out _ _ (HC023.out.range) (fun hHeld => ?_)
      clear hK K
      (try simp only [Act.put, List.setIfInBounds_toArray, List.set_cons_zero, List.set_cons_succ])
      refine wpAnyH_ready (rs := [4]) (by kernel_rfl) (by simp) ?_
      refine AllReadyH.cons (o := ⟨none, _, _, _, _, _⟩) rfl (fun K hK => ?_) AllReadyH.nil
      · refine step_overT rfl 134 _ _ rfl L C Z 134 rfl rfl HL023.out (by rw [HCL.out, HZL.out]) HSZ.out HONE.out ?_
        intro w0234 HK1 hk1
        have HL0234 := HK1
        have HB0234 := Lib.hid (below_keeps HB023.out hk1.out (Nat.le_refl _) (fun i hi => by rw [hi]; exact HSL.out))
        have HC0234 := Lib.hid (HC023.out.keep hk1.out (fun h => by have := HBL.out; have := HSL.out; omega))
        have HR0234 := Lib.hid (rd_keepX HR023.out hk1.out (fun h => by have := HXL.out; have := HSL.out; omega))
        have HN0234 := Lib.hid (HN023.out.keep hk1.out (fun h => HLN.out h.symm) (fun h => HLT.out h.symm) (fun h => by exact HLB.out h.symm) (fun h => by have := HXL.out; have := HSL.out; omega))
        clear HK1 hk1
        refine hK.out _ _ (HC0234.out.range) (fun hHeld => ?_)
        clear hK K
        (try simp only [Act.put, List.setIfInBounds_toArray, List.set_cons_zero, List.set_cons_succ])
        refine wpAnyH_take (i := 5) (oi := ⟨some 6, _, _, _, _, _⟩) (v := ?_) rfl (by kernel_rfl) (by kernel_rfl) (by kernel_rfl) (fun _ _ _ h => False.elim h) (Or.inl ⟨by rfl, ?_⟩) (by assumption) ?_
        rotate_left
        · intro w hSw
          (try dsimp only at hSw)
          go_simp
          all_goals with_reducible rfl
        (try simp only [Act.put, List.setIfInBounds_toArray, List.set_cons_zero, List.set_cons_succ])
        refine wpAnyH_done (by kernel_rfl) ?_ _
        refine NoPanic.normal ?_
        exact HKK.out _ _ _ L N T B _ HL0234.out HN0234.out HB0234.out HSL.out HSN.out HST.out HSB.out HLN.out HLT.out HLB.out
end Go.Proofs.Ytadpgodmkodgdaa
