/- The walks over BytesSize, ParamSize, ParamsSize; The spots of a list, yielded one by one and collected. -/
import Derived.Test.YtlcnjdpfijgcdaaGreatDoorXRParamsPut39
import Derived.Test.YtlcnjdpfijgcdaaGreatDoorXRParamsPut2
namespace Go.Proofs.YtlcnjdpfijgcdaaGreatDoor
open Go.RowKit
set_option linter.unusedSimpArgs false
set_option linter.unusedVariables false

/-- How much is counted of pieces, beyond most no more. -/
def cntP : Nat → List Piece → Nat
  | n, [] => n
  | n, p :: l => if n ≤ 1048576 then cntP (n + (1 + p.2.length)) l else n
def psSize (ps : List Piece) : Nat := cntP ps.length ps
def pkSize (ps : List Piece) : Nat := 1 + psSize ps
theorem cntP_mono : ∀ (l : List Piece) (n : Nat), n ≤ cntP n l
  | [], n => Nat.le_refl _
  | p :: l, n => by
    rw [cntP]; split
    · have := cntP_mono l (n + (1 + p.2.length)); omega
    · exact Nat.le_refl _
theorem cntP_small : ∀ (l : List Piece) (n : Nat), cntP n l ≤ 1048576 → ∀ p ∈ l, p.2.length + 1 ≤ cntP n l
  | [], n, _, p, hp => by simp at hp
  | q :: l, n, h, p, hp => by
    rw [cntP] at h ⊢
    split
    · rename_i hn
      rw [if_pos hn] at h
      rcases List.mem_cons.1 hp with rfl | hp
      · have := cntP_mono l (n + (1 + p.2.length)); omega
      · exact cntP_small l _ h p hp
    · rename_i hn
      rw [if_neg hn] at h
      omega
theorem cntP_le (M : Nat) : ∀ (l : List Piece) (n : Nat), (∀ p ∈ l, p.2.length ≤ M) → n ≤ 1048577 + M + 4398046510976 → cntP n l ≤ 1048577 + M + 4398046510976
  | [], n, _, h => h
  | p :: l, n, hl, h => by
    rw [cntP]; split
    · refine cntP_le M l _ (fun q hq => hl q (by simp [hq])) ?_
      have := hl p (by simp)
      omega
    · exact h
theorem cntP_drop (n : Nat) (ps : List Piece) (k : Nat) (p : Piece) (hp : ps[k]? = some p) (hn : n ≤ 1048576) : cntP n (ps.drop k) = cntP (n + (1 + p.2.length)) (ps.drop (k + 1)) := by
  have hk := (List.getElem?_eq_some_iff.1 hp).1
  have he := (List.getElem?_eq_some_iff.1 hp).2
  rw [List.drop_eq_getElem_cons hk, he, cntP, if_pos hn]
set_option maxRecDepth 100000 in
set_option maxHeartbeats 1000000 in
theorem bsize_any (A : Option Addr) (n c : Nat) (w : World) : Calls Tryz.prog 142 #[.slice A n c] w fun e w' => e = .returned (.int .i64 (n : Int)) ∧ w = w' := by
  go_enter Tryz.func142, Tryz.ntmps142
  go_wp2_with fail
  go_ret
  exact ⟨rfl, rfl⟩
set_option maxRecDepth 100000 in
set_option maxHeartbeats 1000000 in
theorem psize_any (t : Int) (A : Option Addr) (n c : Nat) (w : World) (hn : n ≤ 140737488351232) : Calls Tryz.prog 89 #[.agg #[.int .u16 t, .slice A n c]] w fun e w' => e = .returned (.int .i64 ((1 + n : Nat) : Int)) ∧ Below w.heap.size w w' := by
  have hw : IntKind.i64.wrap (1 + (n : Int)) = ((1 + n : Nat) : Int) := by rw [IntWalk.i64_in _ (by omega)]; omega
  go_enter Tryz.func89, Tryz.ntmps89
  go_wp2_with fail
  refine (bsize_any A n c _).mono ?_; rintro e w1 ⟨rfl, rfl⟩
  go_wp2_with fail
  go_ret
  exact ⟨rfl, (Below.refl _ _).alloc (Nat.le_refl _) _⟩
set_option maxRecDepth 100000 in
set_option maxHeartbeats 2000000 in
theorem pssize_any (A : Option Addr) (n c : Nat) (ps : List Piece) (w : World) (h : Ps w A n ps) : Calls Tryz.prog 14 #[.slice A n c] w fun e w' => e = .returned (.int .i64 (psSize ps : Int)) ∧ Below w.heap.size w w' := by
  have hbig := h.big
  have hl := h.len
  have HPS := Lib.hid h
  have HL := Lib.hid hl
  clear h hl
  go_enter Tryz.func14, Tryz.ntmps14
  go_wp2_with fail
  go_loopw [3, 4] (fun v i wr => ∃ k m : Nat, k ≤ n ∧ i = .int .i64 k ∧ v = .int .i64 (m : Int) ∧ m ≤ 281474976710656 ∧ cntP m (ps.drop k) = psSize ps ∧ Below w.heap.size w wr) (fun _ i _ => n - (intOf i).toNat)
  case atStart => exact ⟨0, n, Nat.zero_le _, rfl, rfl, by omega, by rw [psSize, HL.out]; rfl, Below.refl _ _⟩
  case round =>
    obtain ⟨k, m, hk, rfl, rfl, hm, hc, hB⟩ := hrel
    have k0 : (0 : Int) ≤ (k : Int) := by omega
    have m0 : (0 : Int) ≤ (m : Int) := by omega
    have kadd : IntKind.i64.wrap ((k : Int) + 1) = (k : Int) + 1 := IntWalk.i64_in _ (by omega)
    by_cases hlt : k < n
    · have k1 : (k : Int) < (n : Int) := by omega
      have k2 : decide ((k : Int) < (n : Int)) = true := decide_eq_true k1
      have k3 : decide (k < n) = true := decide_eq_true hlt
      by_cases hm2 : m ≤ 1048576
      · obtain ⟨b, off, rfl, hb, hcc⟩ := (HPS.out.below hB).row (by omega)
        obtain ⟨t, body, B, ml, d, h1, h2, h3, h4, h5, h6, h7⟩ := hcc k hlt
        obtain rfl : body.length = ml := h5.len
        have hcd := cntP_drop m ps k (t, body) h1 hm2
        rw [hcd] at hc
        have hbl := h5.big
        have m1 : (m : Int) ≤ 1048576 := by omega
        have m2 : decide ((m : Int) ≤ 1048576) = true := decide_eq_true m1
        have hw : IntKind.i64.wrap ((m : Int) + ((1 + body.length : Nat) : Int)) = ((m + (1 + body.length) : Nat) : Int) := by rw [IntWalk.i64_in _ (by omega)]; omega
        have hw2 : IntKind.i64.wrap ((m : Int) + (1 + (body.length : Int))) = ((m + (1 + body.length) : Nat) : Int) := by rw [IntWalk.i64_in _ (by omega)]; omega
        have HC := Lib.hid hc
        have HB := Lib.hid hB
        have HCALL := Lib.hid (psize_any t B body.length d wr hbl)
        clear hc hB hcc h1 h2 h5 h6 h7 hcd
        go_wp2_with fail
        refine HCALL.out.mono ?_; rintro e w1 ⟨rfl, hB1⟩
        have HB1 := Lib.hid (HB.out.trans (hB1.mono HB.out.size))
        clear hB1
        go_wp2_with fail
        go_roundw
        case rel => exact ⟨k + 1, m + (1 + body.length), by omega, by go_num, by go_num, by omega, HC.out, HB1.out⟩
        case measure => simp [intOf]; omega
      · have m1 : ¬ (m : Int) ≤ 1048576 := by omega
        have m2 : decide ((m : Int) ≤ 1048576) = false := decide_eq_false m1
        have hfin : psSize ps = m := by
          rw [← hc]
          have hkl : k < ps.length := by rw [HL.out]; exact hlt
          rw [List.drop_eq_getElem_cons hkl, cntP, if_neg hm2]
        have HF := Lib.hid hfin
        have HB := Lib.hid hB
        clear hc hB hfin
        go_wp2_with fail
        go_ret
        exact ⟨ret_int (by rw [HF.out]), HB.out⟩
    · obtain rfl : k = n := by omega
      have k3 : ¬ ((k : Int) < (k : Int)) := by omega
      have hfin : psSize ps = m := by
        rw [← hc, List.drop_eq_nil_of_le (by rw [HL.out]; exact Nat.le_refl _)]; rfl
      have HF := Lib.hid hfin
      have HB := Lib.hid hB
      clear hc hB hfin
      go_wp2_with fail
      go_ret
      exact ⟨ret_int (by rw [HF.out]), HB.out⟩
end Go.Proofs.YtlcnjdpfijgcdaaGreatDoor

namespace Go.Proofs.YtlcnjdpfijgcdaaGreatDoor
open Go.RowKit Go.Shelf
set_option linter.unusedSimpArgs false
set_option linter.unusedVariables false
attribute [local go_sem] Oper.semAt_some

theorem upto_all (zs : List Int) : upto (fun j => zs[j]?.getD 0) zs.length = zs := by
  apply List.ext_getElem
  · simp [upto]
  · intro i h1 h2
    simp [upto, h2]

set_option maxRecDepth 100000 in
set_option maxHeartbeats 2000000 in
theorem val1_in (F : Fence) (n : Nat) (hf : F.fn 150) (hro : F.round = none) (hn : 1 ≤ n) (l Bs n₀ b off len cap : Nat) (zs : List Int) (hreach : len ≤ 1000000) (hb : b < n₀) (J Jx : List Int → World → Prop)
    (hY : ∀ pre x W, J pre W → pre.length < len → YieldAt F (n - 1) Tryz.prog l #[.int .u32 x] W fun e W' =>
      (e = .returned (.bool true) ∧ J (pre ++ [x]) W' ∧ Below n₀ W W') ∨ (e = .returned (.bool false) ∧ Jx (pre ++ [x]) W'))
    (W : World) (hBs : W.cell? ⟨Bs, 0, none⟩ = some (.slice (some ⟨b, off, none⟩) len cap)) (hc : ∀ j, j < len → W.cell? ⟨b, off + j, none⟩ = some (.int .u32 (zs[j]?.getD 0))) (h0 : J [] W) :
    CallsIn F n Tryz.prog 150 #[.func (.yield l) #[] #[], .pointer (some ⟨Bs, 0, none⟩)] W fun e W' => (∃ v, e = .returned v) ∧
      ((∃ ys, ys = upto (fun j => zs[j]?.getD 0) len ∧ J ys W') ∨ (∃ pre, True ∧ Jx pre W')) := by
  refine callsIn_of_wp Tryz.func150 rfl hf ?_ hro
  simp only [Tryz.ntmps150, List.size_toArray, List.length_cons, List.length_nil, Nat.reduceAdd, Nat.reduceSub, Array.replicate_succ, Array.replicate_zero, List.push_toArray, List.append_toArray, List.nil_append, List.cons_append]
  gi_wp2
  gi_loopw [7] (fun i wr => ∃ k : Nat, k ≤ len ∧ i = .int .i64 k ∧ J (upto (fun j => zs[j]?.getD 0) k) wr ∧ Below n₀ W wr)
    (fun i _ => len - (intOf i).toNat)
  case atStart => exact ⟨0, Nat.zero_le _, rfl, h0, Below.refl _ _⟩
  case round =>
    obtain ⟨k, hk, rfl, hJs, hnx⟩ := hrel
    have hcx : k < len → wr.cell? ⟨b, off + k, none⟩ = some (.int .u32 (zs[k]?.getD 0)) := fun h => (hnx.cell (p := ⟨b, off + k, none⟩) hb).trans (hc k h)
    by_cases hlt : k < len
    · obtain ⟨fn, tmps, assign, body, hy, hR⟩ := hY _ (zs[k]?.getD 0) wr hJs (by rw [upto_length]; exact hlt)
      have hcx' := hcx hlt
      gi_wp2
      refine hR.mono ?_
      rintro e W3 (⟨rfl, hJ3, hk3⟩ | ⟨rfl, hJx3⟩)
      · gi_wp2
        go_roundw
        case rel => exact ⟨k + 1, by omega, by simp, by rw [upto_succ]; exact hJ3, hnx.trans hk3⟩
        case measure => simp [intOf]; omega
      · gi_wp2
        refine bodyPost_ret (results_none rfl _ _ _) rfl ?_
        exact ⟨⟨_, rfl⟩, .inr ⟨_, trivial, hJx3⟩⟩
    · obtain rfl : k = len := by omega
      gi_wp2
      go_end0
      exact ⟨⟨_, rfl⟩, .inl ⟨_, rfl, hJs⟩⟩

set_option maxHeartbeats 1000000 in
theorem val_in (F : Fence) (n : Nat) (hf : F.fn 105) (hro : F.round = none) (a : Option Addr) (len cap : Nat) (w : World) :
    CallsIn F n Tryz.prog 105 #[.slice a len cap] w fun e w' => e = .returned (.func (.func 150) #[] #[.pointer (some ⟨w.heap.size, 0, none⟩)]) ∧ w' = w.alloc (.cells #[.slice a len cap] 69) := by
  refine callsIn_of_wp Tryz.func105 rfl hf ?_ hro
  simp only [Tryz.ntmps105, List.size_toArray, List.length_cons, List.length_nil, Nat.reduceAdd, Nat.reduceSub, Array.replicate_succ, Array.replicate_zero, List.push_toArray, List.append_toArray, List.nil_append, List.cons_append]
  gi_wp2
  go_ret
  exact ⟨rfl, rfl⟩

theorem val_stops (F : Fence) (n : Nat) (hf : F.fn 150) (hro : F.round = none) (hn : 1 ≤ n) (Bs n₀ b off cap : Nat) (zs : List Int) (hreach : zs.length ≤ 1000000) (w : World) (hBs : Bs < w.heap.size) (hn₀ : n₀ ≤ w.heap.size) (hb : b < n₀)
    (hc0 : w.cell? ⟨Bs, 0, none⟩ = some (.slice (some ⟨b, off, none⟩) zs.length cap)) (hc : ∀ j, j < zs.length → w.cell? ⟨b, off + j, none⟩ = some (.int .u32 (zs[j]?.getD 0))) :
    SeqStopsK F n Tryz.prog 150 #[.pointer (some ⟨Bs, 0, none⟩)] (fun x : Int => #[Value.int .u32 x]) (Below n₀) (fun ys => ys = zs) (fun _ => True) zs.length w := fun l J Jx W hW _ _ hY h0 => by
  refine (val1_in F n hf hro hn l Bs n₀ b off zs.length cap zs hreach hb J Jx hY W ((hW.cell (p := ⟨Bs, 0, none⟩) hBs).trans hc0) (fun j hj => (hW.cell (p := ⟨b, off + j, none⟩) (Nat.lt_of_lt_of_le hb hn₀)).trans (hc j hj)) h0).mono ?_
  rintro e W' ⟨he, ⟨ys, rfl, hj⟩ | ⟨pre, _, hj⟩⟩
  · exact ⟨he, .inl ⟨_, upto_all zs, hj⟩⟩
  · exact ⟨he, .inr ⟨_, trivial, hj⟩⟩

theorem info_spot : (Tryz.prog.info? 68).map (fun i => (i.zero, i.size, i.bytes)) = some (some (.int .u32 0), 1, 4) := by kernel_rfl

set_option maxRecDepth 100000 in
set_option maxHeartbeats 2000000 in
/-- The list collected: new memory that holds what came. -/
theorem app_any (Bs n₀ b off cap : Nat) (zs : List Int) (hlen : zs.length ≤ 1000000) (w : World) (hBs : Bs < w.heap.size) (hn₀ : n₀ ≤ w.heap.size) (hb : b < n₀)
    (hc0 : w.cell? ⟨Bs, 0, none⟩ = some (.slice (some ⟨b, off, none⟩) zs.length cap)) (hc : ∀ j, j < zs.length → w.cell? ⟨b, off + j, none⟩ = some (.int .u32 (zs[j]?.getD 0))) :
    Calls Tryz.prog 154 #[.slice none 0 0, .func (.func 150) #[] #[.pointer (some ⟨Bs, 0, none⟩)]] w fun e w' => ∃ v, e = .returned v ∧ w'.ownsRow n₀ 68 1 v zs.length (zs.map (Value.int .u32)) ∧ Below n₀ w w' := by
  refine (callsIn_wide (n := 3)).1 ?_
  have h1 : 1 ≤ 3 := by omega
  obtain ⟨i0, hi, hzz⟩ := Option.map_eq_some_iff.1 info_spot
  simp only [Prod.mk.injEq] at hzz
  obtain ⟨hz0, hz1, hz2⟩ := hzz
  refine callsIn_of_wp_marks Tryz.func154 rfl trivial ?_ rfl
  simp only [Tryz.ntmps154, List.size_toArray, List.length_cons, List.length_nil, Nat.reduceAdd, Nat.reduceSub, Array.replicate_succ, Array.replicate_zero, List.push_toArray, List.append_toArray, List.nil_append, List.cons_append]
  gi_wp2
  have bS := Boxed.new w 69 (.slice none 0 0)
  have hB0 : Below n₀ w (w.alloc (.cells #[.slice none 0 0] 69)) := (Below.refl _ w).alloc hn₀ _
  have hBw : Below w.heap.size w (w.alloc (.cells #[.slice none 0 0] 69)) := (Below.refl _ w).alloc (Nat.le_refl _) _
  refine wpIn_rangeFunc_ownG rfl h1 (gf := 150) (lb := #[.pointer (some ⟨Bs, 0, none⟩)]) rfl trivial (enters_of Tryz.func150 (by kernel_rfl) rfl)
    (val_stops Fence.wide _ trivial rfl (by omega) Bs n₀ b off cap zs hlen w hBs hn₀ hb hc0 hc) belowK_t (belowK_b (by simp; omega)) hBw (fun _ => rfl)
    (fun pre W => (∃ v, Boxed W w.heap.size 69 v ∧ W.ownsRow n₀ 68 1 v pre.length (pre.map (Value.int .u32)) ∧ True) ∧ Below n₀ w W)
    (fun _ _ _ => False)
    (OwnFrom.and (Own.from (holdsRow_own n₀ w.heap.size 69 68 1 (fun pre : List Int => pre.length) (fun pre : List Int => pre.map (Value.int .u32)) (fun _ _ => True)) _) (ownFrom_below hn₀ (by simp; omega)))
    (fun _ _ _ _ _ hs _ _ => hs)
    ⟨⟨_, bS, ⟨rfl, .inl ⟨rfl, rfl⟩⟩, trivial⟩, hB0⟩
    (fun x => { tmps := #[.slice none 0 0, .func (.func 150) #[] #[.pointer (some ⟨Bs, 0, none⟩)], .pointer (some ⟨w.heap.size, 0, none⟩), undef, .slice none 0 0, .int .u32 x, .func (.func 150) #[] #[.pointer (some ⟨Bs, 0, none⟩)], .int .u32 x, undef, undef, undef, undef, undef], defers := [] }) ?assign ?body ?done ?stop
  case assign =>
    intro l x W K hK
    gi_wp2
    exact hK
  case body =>
    rintro l pre x W ⟨⟨v, hv, hrow, _⟩, hB⟩ hlt
    have hWn : n₀ ≤ W.heap.size := Nat.le_trans hn₀ (Nat.le_trans (by simp) hB.size)
    have hcv := hv.cell
    have hfv := hv.frozen
    gi_wp2_with (gi_at_builtin; refine wpListIn_append_own _ rfl _ _ 69 rfl n₀ 68 i0 (.int .u32 0) 1 4 Tryz.underlying69 hi hz0 hz1 hz2 rfl (by decide) _ _ _ rfl (hrow.alloc _) ⟨W.heap.size, 0, none⟩ 1 1 [.int .u32 x] rfl rfl (cell_one_new _ _ _) (by simp [Value.oneCell']) (by unfold maxLen; omega) (by omega) (by simp; omega) ?_; intro v' w3 hown' hg3 hnil3
                 obtain ⟨hv1, hv2, hr2, hk2, hb2⟩ := hv.appended (by decide) hrow hWn hn₀ hown' hg3
                 have hc3 := hv1.cell
                 have hf3 := hv1.frozen
                 obtain ⟨g', cap', rfl⟩ := ownsRow_succ hown'
                 go_frame)
    refine ⟨hk2.from _, hb2, ⟨_, hv2, ?_, trivial⟩, hB.trans (hb2.mono (by omega))⟩
    simpa using hr2
  case done =>
    rintro D ys W hD rfl ⟨⟨v, hv, hrow, _⟩, hB⟩ hK
    have hcv := hv.cell
    gi_wp2
    refine ⟨by simp, .inl ⟨_, _, rfl, run_takeDeferred hK, ?_⟩⟩
    exact ⟨_, results_tmp rfl _ _ _, v, rfl, ownsRow_putObj hrow _ hK rfl, hB.trans (belowK_b (w := w) hn₀ W D _ _ (by simp at hD; omega) hK rfl rfl)⟩
  case stop =>
    rintro D c pre W _ _ h _
    exact h.elim

set_option maxHeartbeats 1000000 in
theorem col_any (Bs n₀ b off cap : Nat) (zs : List Int) (hlen : zs.length ≤ 1000000) (w : World) (hBs : Bs < w.heap.size) (hn₀ : n₀ ≤ w.heap.size) (hb : b < n₀)
    (hc0 : w.cell? ⟨Bs, 0, none⟩ = some (.slice (some ⟨b, off, none⟩) zs.length cap)) (hc : ∀ j, j < zs.length → w.cell? ⟨b, off + j, none⟩ = some (.int .u32 (zs[j]?.getD 0))) :
    Calls Tryz.prog 148 #[.func (.func 150) #[] #[.pointer (some ⟨Bs, 0, none⟩)]] w fun e w' => ∃ v, e = .returned v ∧ w'.ownsRow n₀ 68 1 v zs.length (zs.map (Value.int .u32)) ∧ Below n₀ w w' := by
  have happ := app_any Bs n₀ b off cap zs hlen w hBs hn₀ hb hc0 hc
  clear hc0 hc
  go_enter Tryz.func148, Tryz.ntmps148
  go_wp2_with fail
  refine happ.mono ?_; rintro e w1 ⟨v, rfl, hrow, hB⟩
  go_wp2_with fail
  go_ret
  exact ⟨v, rfl, hrow, hB⟩
end Go.Proofs.YtlcnjdpfijgcdaaGreatDoor
