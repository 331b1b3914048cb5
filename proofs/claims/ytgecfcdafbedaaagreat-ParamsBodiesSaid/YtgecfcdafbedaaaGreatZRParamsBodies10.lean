/- The spots of a list, yielded one by one and collected; The walks over slices.Sort, slices.Sorted at spots: a list of its own, of the same ones; sorted, if there are twelve at most. -/
import Derived.Test.YtgecfcdafbedaaaGreatZRParamsBodies2
import Derived.Test.YtgecfcdafbedaaaGreatZRParamsBodies9
namespace Go.Proofs.YtgecfcdafbedaaaGreat
open Go.RowKit Go.Shelf
set_option linter.unusedSimpArgs false
set_option linter.unusedVariables false
attribute [local go_sem] Oper.semAt_some

theorem upto_all (zs : List Int) : upto (fun j => zs[j]?.getD 0) zs.length = zs := by
  apply List.ext_getElem
  · simp [upto]
  · intro i h1 h2
    simp [upto, h2]

set_option maxRecDepth 100000 in
set_option maxHeartbeats 2000000 in
theorem val1_in (F : Fence) (n : Nat) (hf : F.fn 79) (hro : F.round = none) (hn : 1 ≤ n) (l Bs n₀ b off len cap : Nat) (A : Option Addr) (hA : 0 < len → A = some ⟨b, off, none⟩) (zs : List Int) (hreach : len ≤ 35184372087808) (hb : 0 < len → b < n₀) (J Jx : List Int → World → Prop)
    (hY : ∀ pre x W, J pre W → pre.length < len → YieldAt F (n - 1) Tryz.prog l #[.int .u32 x] W fun e W' =>
      (e = .returned (.bool true) ∧ J (pre ++ [x]) W' ∧ Below n₀ W W') ∨ (e = .returned (.bool false) ∧ Jx (pre ++ [x]) W'))
    (W : World) (hBs : W.cell? ⟨Bs, 0, none⟩ = some (.slice A len cap)) (hc : ∀ j, j < len → W.cell? ⟨b, off + j, none⟩ = some (.int .u32 (zs[j]?.getD 0))) (h0 : J [] W) :
    CallsIn F n Tryz.prog 79 #[.func (.yield l) #[] #[], .pointer (some ⟨Bs, 0, none⟩)] W fun e W' => (∃ v, e = .returned v) ∧
      ((∃ ys, ys = upto (fun j => zs[j]?.getD 0) len ∧ J ys W') ∨ (∃ pre, True ∧ Jx pre W')) := by
  refine callsIn_of_wp Tryz.func79 rfl hf ?_ hro
  simp only [Tryz.ntmps79, List.size_toArray, List.length_cons, List.length_nil, Nat.reduceAdd, Nat.reduceSub, Array.replicate_succ, Array.replicate_zero, List.push_toArray, List.append_toArray, List.nil_append, List.cons_append]
  gi_wp2
  gi_loopw [7] (fun i wr => ∃ k : Nat, k ≤ len ∧ i = .int .i64 k ∧ J (upto (fun j => zs[j]?.getD 0) k) wr ∧ Below n₀ W wr)
    (fun i _ => len - (intOf i).toNat)
  case atStart => exact ⟨0, Nat.zero_le _, rfl, h0, Below.refl _ _⟩
  case round =>
    obtain ⟨k, hk, rfl, hJs, hnx⟩ := hrel
    have hcx : k < len → wr.cell? ⟨b, off + k, none⟩ = some (.int .u32 (zs[k]?.getD 0)) := fun h => (hnx.cell (p := ⟨b, off + k, none⟩) (hb (by omega))).trans (hc k h)
    by_cases hlt : k < len
    · obtain ⟨fn, tmps, assign, body, hy, hR⟩ := hY _ (zs[k]?.getD 0) wr hJs (by rw [upto_length]; exact hlt)
      have hcx' := hcx hlt
      obtain rfl := hA (by omega)
      gi_wp2
      refine hR.mono ?_
      rintro e W3 (⟨rfl, hJ3, hk3⟩ | ⟨rfl, hJx3⟩)
      · gi_wp2
        go_roundw
        case rel => exact ⟨k + 1, by omega, by simp, by rw [upto_succ]; exact hJ3, hnx.trans hk3⟩
        case measure => simp [intOf]; omega
      · gi_wp2
        refine bodyPost_ret (results_none rfl _ _ _) rfl ?_
        exact ⟨⟨_, rfl⟩, .inr ⟨_, trivial, hJx3⟩⟩
    · obtain rfl : k = len := by omega
      gi_wp2
      go_end0
      exact ⟨⟨_, rfl⟩, .inl ⟨_, rfl, hJs⟩⟩

set_option maxHeartbeats 35184372087808 in
theorem val_in (F : Fence) (n : Nat) (hf : F.fn 61) (hro : F.round = none) (a : Option Addr) (len cap : Nat) (w : World) :
    CallsIn F n Tryz.prog 61 #[.slice a len cap] w fun e w' => e = .returned (.func (.func 79) #[] #[.pointer (some ⟨w.heap.size, 0, none⟩)]) ∧ w' = w.alloc (.cells #[.slice a len cap] 24) := by
  refine callsIn_of_wp Tryz.func61 rfl hf ?_ hro
  simp only [Tryz.ntmps61, List.size_toArray, List.length_cons, List.length_nil, Nat.reduceAdd, Nat.reduceSub, Array.replicate_succ, Array.replicate_zero, List.push_toArray, List.append_toArray, List.nil_append, List.cons_append]
  gi_wp2
  go_ret
  exact ⟨rfl, rfl⟩

theorem val_stops (F : Fence) (n : Nat) (hf : F.fn 79) (hro : F.round = none) (hn : 1 ≤ n) (Bs n₀ b off cap : Nat) (A : Option Addr) (zs : List Int) (hA : 0 < zs.length → A = some ⟨b, off, none⟩) (hreach : zs.length ≤ 35184372087808) (w : World) (hBs : Bs < w.heap.size) (hn₀ : n₀ ≤ w.heap.size) (hb : 0 < zs.length → b < n₀)
    (hc0 : w.cell? ⟨Bs, 0, none⟩ = some (.slice A zs.length cap)) (hc : ∀ j, j < zs.length → w.cell? ⟨b, off + j, none⟩ = some (.int .u32 (zs[j]?.getD 0))) :
    SeqStopsK F n Tryz.prog 79 #[.pointer (some ⟨Bs, 0, none⟩)] (fun x : Int => #[Value.int .u32 x]) (Below n₀) (fun ys => ys = zs) (fun _ => True) zs.length w := fun l J Jx W hW _ _ hY h0 => by
  refine (val1_in F n hf hro hn l Bs n₀ b off zs.length cap A hA zs hreach hb J Jx hY W ((hW.cell (p := ⟨Bs, 0, none⟩) hBs).trans hc0) (fun j hj => (hW.cell (p := ⟨b, off + j, none⟩) (Nat.lt_of_lt_of_le (hb (by omega)) hn₀)).trans (hc j hj)) h0).mono ?_
  rintro e W' ⟨he, ⟨ys, rfl, hj⟩ | ⟨pre, _, hj⟩⟩
  · exact ⟨he, .inl ⟨_, upto_all zs, hj⟩⟩
  · exact ⟨he, .inr ⟨_, trivial, hj⟩⟩

theorem info_spot : (Tryz.prog.info? 73).map (fun i => (i.zero, i.size, i.bytes)) = some (some (.int .u32 0), 1, 4) := by kernel_rfl

set_option maxRecDepth 100000 in
set_option maxHeartbeats 2000000 in
/-- The list collected: new memory that holds what came. -/
theorem app_anyA (Bs n₀ b off cap : Nat) (A : Option Addr) (zs : List Int) (hA : 0 < zs.length → A = some ⟨b, off, none⟩) (hlen : zs.length ≤ 35184372087808) (w : World) (hBs : Bs < w.heap.size) (hn₀ : n₀ ≤ w.heap.size) (hb : 0 < zs.length → b < n₀)
    (hc0 : w.cell? ⟨Bs, 0, none⟩ = some (.slice A zs.length cap)) (hc : ∀ j, j < zs.length → w.cell? ⟨b, off + j, none⟩ = some (.int .u32 (zs[j]?.getD 0))) :
    Calls Tryz.prog 84 #[.slice none 0 0, .func (.func 79) #[] #[.pointer (some ⟨Bs, 0, none⟩)]] w fun e w' => ∃ v, e = .returned v ∧ w'.ownsRow n₀ 73 1 v zs.length (zs.map (Value.int .u32)) ∧ Below n₀ w w' := by
  refine (callsIn_wide (n := 3)).1 ?_
  have h1 : 1 ≤ 3 := by omega
  obtain ⟨i0, hi, hzz⟩ := Option.map_eq_some_iff.1 info_spot
  simp only [Prod.mk.injEq] at hzz
  obtain ⟨hz0, hz1, hz2⟩ := hzz
  refine callsIn_of_wp_marks Tryz.func84 rfl trivial ?_ rfl
  simp only [Tryz.ntmps84, List.size_toArray, List.length_cons, List.length_nil, Nat.reduceAdd, Nat.reduceSub, Array.replicate_succ, Array.replicate_zero, List.push_toArray, List.append_toArray, List.nil_append, List.cons_append]
  gi_wp2
  have bS := Boxed.new w 24 (.slice none 0 0)
  have hB0 : Below n₀ w (w.alloc (.cells #[.slice none 0 0] 24)) := (Below.refl _ w).alloc hn₀ _
  have hBw : Below w.heap.size w (w.alloc (.cells #[.slice none 0 0] 24)) := (Below.refl _ w).alloc (Nat.le_refl _) _
  refine wpIn_rangeFunc_ownG rfl h1 (gf := 79) (lb := #[.pointer (some ⟨Bs, 0, none⟩)]) rfl trivial (enters_of Tryz.func79 (by kernel_rfl) rfl)
    (val_stops Fence.wide _ trivial rfl (by omega) Bs n₀ b off cap A zs hA hlen w hBs hn₀ hb hc0 hc) belowK_t (belowK_b (by simp; omega)) hBw (fun _ => rfl)
    (fun pre W => (∃ v, Boxed W w.heap.size 24 v ∧ W.ownsRow n₀ 73 1 v pre.length (pre.map (Value.int .u32)) ∧ True) ∧ Below n₀ w W)
    (fun _ _ _ => False)
    (OwnFrom.and (Own.from (holdsRow_own n₀ w.heap.size 24 73 1 (fun pre : List Int => pre.length) (fun pre : List Int => pre.map (Value.int .u32)) (fun _ _ => True)) _) (ownFrom_below hn₀ (by simp; omega)))
    (fun _ _ _ _ _ hs _ _ => hs)
    ⟨⟨_, bS, ⟨rfl, .inl ⟨rfl, rfl⟩⟩, trivial⟩, hB0⟩
    (fun x => { tmps := #[.slice none 0 0, .func (.func 79) #[] #[.pointer (some ⟨Bs, 0, none⟩)], .pointer (some ⟨w.heap.size, 0, none⟩), undef, .slice none 0 0, .int .u32 x, .func (.func 79) #[] #[.pointer (some ⟨Bs, 0, none⟩)], .int .u32 x, undef, undef, undef, undef, undef], defers := [] }) ?assign ?body ?done ?stop
  case assign =>
    intro l x W K hK
    gi_wp2
    exact hK
  case body =>
    rintro l pre x W ⟨⟨v, hv, hrow, _⟩, hB⟩ hlt
    have hWn : n₀ ≤ W.heap.size := Nat.le_trans hn₀ (Nat.le_trans (by simp) hB.size)
    have hcv := hv.cell
    have hfv := hv.frozen
    gi_wp2_with (gi_at_builtin; refine wpListIn_append_own _ rfl _ _ 24 rfl n₀ 73 i0 (.int .u32 0) 1 4 Tryz.underlying24 hi hz0 hz1 hz2 rfl (by decide) _ _ _ rfl (hrow.alloc _) ⟨W.heap.size, 0, none⟩ 1 1 [.int .u32 x] rfl rfl (cell_one_new _ _ _) (by simp [Value.oneCell']) (by unfold maxLen; omega) (by omega) (by simp; omega) ?_; intro v' w3 hown' hg3 hnil3
                 obtain ⟨hv1, hv2, hr2, hk2, hb2⟩ := hv.appended (by decide) hrow hWn hn₀ hown' hg3
                 have hc3 := hv1.cell
                 have hf3 := hv1.frozen
                 obtain ⟨g', cap', rfl⟩ := ownsRow_succ hown'
                 go_frame)
    refine ⟨hk2.from _, hb2, ⟨_, hv2, ?_, trivial⟩, hB.trans (hb2.mono (by omega))⟩
    simpa using hr2
  case done =>
    rintro D ys W hD rfl ⟨⟨v, hv, hrow, _⟩, hB⟩ hK
    have hcv := hv.cell
    gi_wp2
    refine ⟨by simp, .inl ⟨_, _, rfl, run_takeDeferred hK, ?_⟩⟩
    exact ⟨_, results_tmp rfl _ _ _, v, rfl, ownsRow_putObj hrow _ hK rfl, hB.trans (belowK_b (w := w) hn₀ W D _ _ (by simp at hD; omega) hK rfl rfl)⟩
  case stop =>
    rintro D c pre W _ _ h _
    exact h.elim

set_option maxHeartbeats 35184372087808 in
theorem col_anyA (Bs n₀ b off cap : Nat) (A : Option Addr) (zs : List Int) (hA : 0 < zs.length → A = some ⟨b, off, none⟩) (hlen : zs.length ≤ 35184372087808) (w : World) (hBs : Bs < w.heap.size) (hn₀ : n₀ ≤ w.heap.size) (hb : 0 < zs.length → b < n₀)
    (hc0 : w.cell? ⟨Bs, 0, none⟩ = some (.slice A zs.length cap)) (hc : ∀ j, j < zs.length → w.cell? ⟨b, off + j, none⟩ = some (.int .u32 (zs[j]?.getD 0))) :
    Calls Tryz.prog 77 #[.func (.func 79) #[] #[.pointer (some ⟨Bs, 0, none⟩)]] w fun e w' => ∃ v, e = .returned v ∧ w'.ownsRow n₀ 73 1 v zs.length (zs.map (Value.int .u32)) ∧ Below n₀ w w' := by
  have happ := app_anyA Bs n₀ b off cap A zs hA hlen w hBs hn₀ hb hc0 hc
  clear hc0 hc hA
  go_enter Tryz.func77, Tryz.ntmps77
  go_wp2_with fail
  refine happ.mono ?_; rintro e w1 ⟨v, rfl, hrow, hB⟩
  go_wp2_with fail
  go_ret
  exact ⟨v, rfl, hrow, hB⟩
theorem col_any (Bs n₀ b off cap : Nat) (zs : List Int) (hlen : zs.length ≤ 35184372087808) (w : World) (hBs : Bs < w.heap.size) (hn₀ : n₀ ≤ w.heap.size) (hb : b < n₀)
    (hc0 : w.cell? ⟨Bs, 0, none⟩ = some (.slice (some ⟨b, off, none⟩) zs.length cap)) (hc : ∀ j, j < zs.length → w.cell? ⟨b, off + j, none⟩ = some (.int .u32 (zs[j]?.getD 0))) :
    Calls Tryz.prog 77 #[.func (.func 79) #[] #[.pointer (some ⟨Bs, 0, none⟩)]] w fun e w' => ∃ v, e = .returned v ∧ w'.ownsRow n₀ 73 1 v zs.length (zs.map (Value.int .u32)) ∧ Below n₀ w w' :=
  col_anyA Bs n₀ b off cap _ zs (fun _ => rfl) hlen w hBs hn₀ (fun _ => hb) hc0 hc
end Go.Proofs.YtgecfcdafbedaaaGreat

namespace Go.Proofs.YtgecfcdafbedaaaGreat
open Go.RowKit Go.Shelf
set_option linter.unusedSimpArgs false
set_option linter.unusedVariables false

set_option maxRecDepth 100000 in
set_option maxHeartbeats 4000000 in
theorem ins_none (A : Option Addr) (cap : Nat) (w : World) :
    Calls Tryz.prog 88 #[.slice A 0 cap, .int .i64 0, .int .i64 0] w fun e w' => e = .returned (.tuple #[]) ∧ w = w' := by
  go_enter Tryz.func88, Tryz.ntmps88
  go_wp2_with fail
  go_loopg [6, 7] 1 (fun gas s r wr => s = .int .i64 1 ∧ gas = 1 ∧ w = wr)
  case atStart => exact ⟨rfl, rfl, rfl⟩
  case round =>
    obtain ⟨rfl, rfl, rfl⟩ := hrel
    go_wp2_with fail
    go_end0
    exact ⟨rfl, rfl⟩
set_option maxRecDepth 100000 in
set_option maxHeartbeats 4000000 in
theorem pdq_none (A : Option Addr) (cap : Nat) (L : Int) (w : World) :
    Calls Tryz.prog 85 #[.slice A 0 cap, .int .i64 0, .int .i64 0, .int .i64 L] w fun e w' => e = .returned (.tuple #[]) ∧ w = w' := by
  have H := Lib.hid (ins_none A cap w)
  go_enter Tryz.func85, Tryz.ntmps85
  go_wp2_with fail
  go_loopg [1, 2, 3, 8, 9, 10, 11, 12, 13, 14, 15, 16, 17, 18] 1 (fun gas s1 s2 s3 s8 s9 s10 s11 s12 s13 s14 s15 s16 s17 s18 wr => gas = 1 ∧ s1 = .int .i64 0 ∧ s2 = .int .i64 0 ∧ s3 = .int .i64 L ∧ s8 = .bool true ∧ s9 = .bool true ∧ w = wr)
  case atStart => exact ⟨rfl, rfl, rfl, rfl, rfl, rfl, rfl⟩
  case round =>
    obtain ⟨rfl, rfl, rfl, rfl, rfl, rfl, rfl⟩ := hrel
    go_wp2_with fail
    refine H.out.mono ?_; rintro e w1 ⟨rfl, rfl⟩
    go_wp2_with fail
    refine bodyPost_ret (results_none rfl _ _ _) rfl ?_
    exact ⟨rfl, rfl⟩
set_option maxHeartbeats 1000000 in
theorem sort_none (A : Option Addr) (cap : Nat) (w : World) :
    Calls Tryz.prog 78 #[.slice A 0 cap] w fun e w' => e = .returned (.tuple #[]) ∧ w = w' := by
  have H := Lib.hid (len_any 0 w (by omega))
  have H2 := Lib.hid (fun L => pdq_none A cap L w)
  go_enter Tryz.func78, Tryz.ntmps78
  go_wp2_with fail
  refine H.out.mono ?_; rintro e w1 ⟨L, rfl, _, rfl⟩
  go_wp2_with fail
  refine (H2.out _).mono ?_; rintro e w1 ⟨rfl, rfl⟩
  go_wp2_with fail
  go_end0
  exact ⟨rfl, rfl⟩
set_option maxHeartbeats 1000000 in
theorem sort_any (g n cap : Nat) (f : Nat → Int) (w : World) (h : RowF w g n f) (hn : n < 140737488355328) :
    Calls Tryz.prog 78 #[.slice (some ⟨g, 0, none⟩) n cap] w fun e w' => e = .returned (.tuple #[]) ∧ Sorted12 w g n f 0 n w' := by
  have H := Lib.hid (len_any n w (by omega))
  have H2 := Lib.hid (fun L => pdq_any g n cap hn n 0 n L f w (by omega) h (Nat.zero_le _) (Nat.le_refl _))
  have hwn : IntKind.u64.wrap (n : Int) = (n : Int) := IntWalk.u64_in _ (by omega)
  clear h
  go_enter Tryz.func78, Tryz.ntmps78
  go_wp2_with fail
  refine H.out.mono ?_; rintro e w1 ⟨L, rfl, _, rfl⟩
  go_wp2_with fail
  refine (H2.out _).mono ?_; rintro e w1 ⟨rfl, hs⟩
  have HS := Lib.hid hs
  clear hs
  go_wp2_with fail
  go_end0
  exact ⟨rfl, HS.out⟩
/-- A row of spots that one owns, as a row. -/
theorem rowF_of_own {w : World} {n₀ n : Nat} {v : Value} {zs : List Int} (h : w.ownsRow n₀ 73 1 v n (zs.map (Value.int .u32))) (hn : 0 < n) (hz : zs.length = n) :
    ∃ g cap, v = .slice (some ⟨g, 0, none⟩) n cap ∧ n ≤ cap ∧ n₀ ≤ g ∧ RowF w g n (fun j => zs[j]?.getD 0) := by
  rcases h.2 with ⟨_, h0⟩ | ⟨g, cap, cur, rfl, hb, hg, hc, hm, hs, ht⟩
  · omega
  · refine ⟨g, cap, rfl, hc, hb, cur.toList, by unfold Blk; simpa using hg, by simp; omega, fun j hj => ?_⟩
    have h1 := congrArg (fun l => l[j]?) ht
    simp only [List.getElem?_take, Nat.mul_one, if_pos hj, List.getElem?_map] at h1
    rw [h1]
    simp [List.getElem?_eq_getElem (show j < zs.length by omega)]
set_option maxRecDepth 100000 in
set_option maxHeartbeats 1000000 in
theorem sorted_any (Bs n₀ b off cap : Nat) (A : Option Addr) (zs : List Int) (hA : 0 < zs.length → A = some ⟨b, off, none⟩) (hlen : zs.length ≤ 35184372087808) (w : World) (hBs : Bs < w.heap.size) (hn₀ : n₀ ≤ w.heap.size) (hb : 0 < zs.length → b < n₀)
    (hc0 : w.cell? ⟨Bs, 0, none⟩ = some (.slice A zs.length cap)) (hc : ∀ j, j < zs.length → w.cell? ⟨b, off + j, none⟩ = some (.int .u32 (zs[j]?.getD 0))) :
    Calls Tryz.prog 60 #[.func (.func 79) #[] #[.pointer (some ⟨Bs, 0, none⟩)]] w fun e w' => ∃ v, e = .returned v ∧ ((zs.length = 0 ∧ ∃ A' c', v = .slice A' 0 c') ∨ (∃ g c' f', v = .slice (some ⟨g, 0, none⟩) zs.length c' ∧ zs.length ≤ c' ∧ n₀ ≤ g ∧ RowF w' g zs.length f' ∧ Shuf zs.length (fun j => zs[j]?.getD 0) f' ∧ (zs.length ≤ 12 → SortF f' 0 zs.length))) ∧ Below n₀ w w' := by
  have HC := Lib.hid (col_anyA Bs n₀ b off cap A zs hA hlen w hBs hn₀ hb hc0 hc)
  have HN := Lib.hid hn₀
  clear hc0 hc hA hb
  go_enter Tryz.func60, Tryz.ntmps60
  go_wp2_with fail
  refine HC.out.mono ?_; rintro e w1 ⟨v, rfl, hrow, hB⟩
  have HB := Lib.hid hB
  clear hB HC
  by_cases h0 : zs.length = 0
  · have hv : ∃ A' c', v = .slice A' 0 c' := by
      rcases hrow.2 with ⟨h1, _⟩ | ⟨g, c, cur, h1, _⟩
      · exact ⟨none, 0, h1⟩
      · exact ⟨_, c, by rw [h1, h0]⟩
    obtain ⟨A', c', rfl⟩ := hv
    have HS := Lib.hid (sort_none A' c' w1)
    have H0 := Lib.hid h0
    clear hrow h0
    go_wp2_with fail
    refine HS.out.mono ?_; rintro e w2 ⟨rfl, rfl⟩
    go_wp2_with fail
    go_ret
    exact ⟨_, rfl, .inl ⟨H0.out, A', c', rfl⟩, HB.out⟩
  · obtain ⟨g, c, rfl, hcc, hg, hr⟩ := rowF_of_own hrow (by omega) rfl
    have HS := Lib.hid (sort_any g zs.length c _ w1 hr (by omega))
    have HG := Lib.hid hg
    have HCC := Lib.hid hcc
    clear hrow h0 hr hg hcc
    go_wp2_with fail
    refine HS.out.mono ?_; rintro e w2 ⟨rfl, f', r1, r2, r3, r4⟩
    have HF := Lib.hid (And.intro r1 (And.intro r2 r4))
    have HB2 := Lib.hid (below_keeps HB.out r3 HN.out (fun i hi => by rw [hi]; exact HG.out))
    clear r1 r2 r3 r4
    go_wp2_with fail
    go_ret
    exact ⟨_, rfl, .inr ⟨g, c, f', rfl, HCC.out, HG.out, HF.out.1, HF.out.2.1, fun h => HF.out.2.2 (by omega)⟩, HB2.out⟩
end Go.Proofs.YtgecfcdafbedaaaGreat
