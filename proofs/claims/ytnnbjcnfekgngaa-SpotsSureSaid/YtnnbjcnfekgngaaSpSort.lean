/- The walks over slices.Sort, slices.Sorted at spots: a list of its own, of the same ones; sorted, if there are twelve at most. -/
import Derived.Test.YtnnbjcnfekgngaaSpPdq
import Derived.Test.YtnnbjcnfekgngaaSVal
namespace Go.Proofs.Ytnnbjcnfekgngaa
open Go.RowKit Go.Shelf
set_option linter.unusedSimpArgs false
set_option linter.unusedVariables false

set_option maxRecDepth 100000 in
set_option maxHeartbeats 4000000 in
theorem ins_none (A : Option Addr) (cap : Nat) (w : World) :
    Calls Try.prog 36 #[.slice A 0 cap, .int .i64 0, .int .i64 0] w fun e w' => e = .returned (.tuple #[]) ∧ w = w' := by
  go_enter Try.func36, Try.ntmps36
  go_wp2_with fail
  go_loopg [6, 7] 1 (fun gas s r wr => s = .int .i64 1 ∧ gas = 1 ∧ w = wr)
  case atStart => exact ⟨rfl, rfl, rfl⟩
  case round =>
    obtain ⟨rfl, rfl, rfl⟩ := hrel
    go_wp2_with fail
    go_end0
    exact ⟨rfl, rfl⟩
set_option maxRecDepth 100000 in
set_option maxHeartbeats 4000000 in
theorem pdq_none (A : Option Addr) (cap : Nat) (L : Int) (w : World) :
    Calls Try.prog 33 #[.slice A 0 cap, .int .i64 0, .int .i64 0, .int .i64 L] w fun e w' => e = .returned (.tuple #[]) ∧ w = w' := by
  have H := Lib.hid (ins_none A cap w)
  go_enter Try.func33, Try.ntmps33
  go_wp2_with fail
  go_loopg [1, 2, 3, 8, 9, 10, 11, 12, 13, 14, 15, 16, 17, 18] 1 (fun gas s1 s2 s3 s8 s9 s10 s11 s12 s13 s14 s15 s16 s17 s18 wr => gas = 1 ∧ s1 = .int .i64 0 ∧ s2 = .int .i64 0 ∧ s3 = .int .i64 L ∧ s8 = .bool true ∧ s9 = .bool true ∧ w = wr)
  case atStart => exact ⟨rfl, rfl, rfl, rfl, rfl, rfl, rfl⟩
  case round =>
    obtain ⟨rfl, rfl, rfl, rfl, rfl, rfl, rfl⟩ := hrel
    go_wp2_with fail
    refine H.out.mono ?_; rintro e w1 ⟨rfl, rfl⟩
    go_wp2_with fail
    refine bodyPost_ret (results_none rfl _ _ _) rfl ?_
    exact ⟨rfl, rfl⟩
set_option maxHeartbeats 1000000 in
theorem sort_none (A : Option Addr) (cap : Nat) (w : World) :
    Calls Try.prog 29 #[.slice A 0 cap] w fun e w' => e = .returned (.tuple #[]) ∧ w = w' := by
  have H := Lib.hid (len_any 0 w (by omega))
  have H2 := Lib.hid (fun L => pdq_none A cap L w)
  go_enter Try.func29, Try.ntmps29
  go_wp2_with fail
  refine H.out.mono ?_; rintro e w1 ⟨L, rfl, _, rfl⟩
  go_wp2_with fail
  refine (H2.out _).mono ?_; rintro e w1 ⟨rfl, rfl⟩
  go_wp2_with fail
  go_end0
  exact ⟨rfl, rfl⟩
set_option maxHeartbeats 1000000 in
theorem sort_any (g n cap : Nat) (f : Nat → Int) (w : World) (h : RowF w g n f) (hn : n < 140737488355328) :
    Calls Try.prog 29 #[.slice (some ⟨g, 0, none⟩) n cap] w fun e w' => e = .returned (.tuple #[]) ∧ Sorted12 w g n f 0 n w' := by
  have H := Lib.hid (len_any n w (by omega))
  have H2 := Lib.hid (fun L => pdq_any g n cap hn n 0 n L f w (by omega) h (Nat.zero_le _) (Nat.le_refl _))
  have hwn : IntKind.u64.wrap (n : Int) = (n : Int) := IntWalk.u64_in _ (by omega)
  clear h
  go_enter Try.func29, Try.ntmps29
  go_wp2_with fail
  refine H.out.mono ?_; rintro e w1 ⟨L, rfl, _, rfl⟩
  go_wp2_with fail
  refine (H2.out _).mono ?_; rintro e w1 ⟨rfl, hs⟩
  have HS := Lib.hid hs
  clear hs
  go_wp2_with fail
  go_end0
  exact ⟨rfl, HS.out⟩
/-- A row of spots that one owns, as a row. -/
theorem rowF_of_own {w : World} {n₀ n : Nat} {v : Value} {zs : List Int} (h : w.ownsRow n₀ 23 1 v n (zs.map (Value.int .u32))) (hn : 0 < n) (hz : zs.length = n) :
    ∃ g cap, v = .slice (some ⟨g, 0, none⟩) n cap ∧ n ≤ cap ∧ n₀ ≤ g ∧ RowF w g n (fun j => zs[j]?.getD 0) := by
  rcases h.2 with ⟨_, h0⟩ | ⟨g, cap, cur, rfl, hb, hg, hc, hm, hs, ht⟩
  · omega
  · refine ⟨g, cap, rfl, hc, hb, cur.toList, by unfold Blk; simpa using hg, by simp; omega, fun j hj => ?_⟩
    have h1 := congrArg (fun l => l[j]?) ht
    simp only [List.getElem?_take, Nat.mul_one, if_pos hj, List.getElem?_map] at h1
    rw [h1]
    simp [List.getElem?_eq_getElem (show j < zs.length by omega)]
set_option maxRecDepth 100000 in
set_option maxHeartbeats 1000000 in
theorem sorted_any (Bs n₀ b off cap : Nat) (A : Option Addr) (zs : List Int) (hA : 0 < zs.length → A = some ⟨b, off, none⟩) (hlen : zs.length ≤ 35184372087808) (w : World) (hBs : Bs < w.heap.size) (hn₀ : n₀ ≤ w.heap.size) (hb : 0 < zs.length → b < n₀)
    (hc0 : w.cell? ⟨Bs, 0, none⟩ = some (.slice A zs.length cap)) (hc : ∀ j, j < zs.length → w.cell? ⟨b, off + j, none⟩ = some (.int .u32 (zs[j]?.getD 0))) :
    Calls Try.prog 23 #[.func (.func 30) #[] #[.pointer (some ⟨Bs, 0, none⟩)]] w fun e w' => ∃ v, e = .returned v ∧ ((zs.length = 0 ∧ ∃ A' c', v = .slice A' 0 c') ∨ (∃ g c' f', v = .slice (some ⟨g, 0, none⟩) zs.length c' ∧ zs.length ≤ c' ∧ n₀ ≤ g ∧ RowF w' g zs.length f' ∧ Shuf zs.length (fun j => zs[j]?.getD 0) f' ∧ (zs.length ≤ 12 → SortF f' 0 zs.length))) ∧ Below n₀ w w' := by
  have HC := Lib.hid (col_anyA Bs n₀ b off cap A zs hA hlen w hBs hn₀ hb hc0 hc)
  have HN := Lib.hid hn₀
  clear hc0 hc hA hb
  go_enter Try.func23, Try.ntmps23
  go_wp2_with fail
  refine HC.out.mono ?_; rintro e w1 ⟨v, rfl, hrow, hB⟩
  have HB := Lib.hid hB
  clear hB HC
  by_cases h0 : zs.length = 0
  · have hv : ∃ A' c', v = .slice A' 0 c' := by
      rcases hrow.2 with ⟨h1, _⟩ | ⟨g, c, cur, h1, _⟩
      · exact ⟨none, 0, h1⟩
      · exact ⟨_, c, by rw [h1, h0]⟩
    obtain ⟨A', c', rfl⟩ := hv
    have HS := Lib.hid (sort_none A' c' w1)
    have H0 := Lib.hid h0
    clear hrow h0
    go_wp2_with fail
    refine HS.out.mono ?_; rintro e w2 ⟨rfl, rfl⟩
    go_wp2_with fail
    go_ret
    exact ⟨_, rfl, .inl ⟨H0.out, A', c', rfl⟩, HB.out⟩
  · obtain ⟨g, c, rfl, hcc, hg, hr⟩ := rowF_of_own hrow (by omega) rfl
    have HS := Lib.hid (sort_any g zs.length c _ w1 hr (by omega))
    have HG := Lib.hid hg
    have HCC := Lib.hid hcc
    clear hrow h0 hr hg hcc
    go_wp2_with fail
    refine HS.out.mono ?_; rintro e w2 ⟨rfl, f', r1, r2, r3, r4⟩
    have HF := Lib.hid (And.intro r1 (And.intro r2 r4))
    have HB2 := Lib.hid (below_keeps HB.out r3 HN.out (fun i hi => by rw [hi]; exact HG.out))
    clear r1 r2 r3 r4
    go_wp2_with fail
    go_ret
    exact ⟨_, rfl, .inr ⟨g, c, f', rfl, HCC.out, HG.out, HF.out.1, HF.out.2.1, fun h => HF.out.2.2 (by omega)⟩, HB2.out⟩
end Go.Proofs.Ytnnbjcnfekgngaa
