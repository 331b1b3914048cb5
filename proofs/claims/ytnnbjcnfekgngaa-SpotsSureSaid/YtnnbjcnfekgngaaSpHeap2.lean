/- The walk over slices.heapSortOrdered at spots. -/
import Derived.Test.YtnnbjcnfekgngaaSpHeap
namespace Go.Proofs.Ytnnbjcnfekgngaa
open Go.RowKit Go.Shelf
set_option linter.unusedSimpArgs false
set_option linter.unusedVariables false

set_option maxRecDepth 100000 in
set_option maxHeartbeats 8000000 in
theorem heap_any (g n cap a b : Nat) (f : Nat → Int) (w : World) (h : RowF w g n f) (hab : a < b) (hbn : b ≤ n) (hn : n ≤ 1152921504606846976) :
    Calls Try.prog 37 #[.slice (some ⟨g, 0, none⟩) n cap, .int .i64 (a : Int), .int .i64 (b : Int)] w fun e w' => e = .returned (.tuple #[]) ∧ Moved w g n f w' := by
  have H0 := Lib.hid h
  obtain ⟨hi, hhi⟩ : ∃ hi : Nat, b - a = hi := ⟨_, rfl⟩
  have w1 : IntKind.i64.wrap ((b : Int) - (a : Int)) = (hi : Int) := by rw [IntWalk.i64_in _ (by omega)]; omega
  have e1 : (b : Int) - (a : Int) = (hi : Int) := by omega
  obtain ⟨k, hk⟩ : ∃ k : Nat, hi - 1 = k := ⟨_, rfl⟩
  have w2 : IntKind.i64.wrap ((hi : Int) - 1) = (k : Int) := by rw [IntWalk.i64_in _ (by omega)]; omega
  have e2 : (hi : Int) - 1 = (k : Int) := by omega
  obtain ⟨m, hm⟩ : ∃ m : Nat, k / 2 = m := ⟨_, rfl⟩
  have w3 : (k : Int) / 2 = (m : Int) := by omega
  have w4 : (k : Int).tdiv 2 = (m : Int) := by rw [Int.tdiv_eq_ediv_of_nonneg (by omega)]; exact w3
  have w5 : IntKind.i64.wrap (m : Int) = (m : Int) := IntWalk.i64_in _ (by omega)
  have w6 : IntKind.i64.wrap (k : Int) = (k : Int) := IntWalk.i64_in _ (by omega)
  have w7 : IntKind.i64.wrap (hi : Int) = (hi : Int) := IntWalk.i64_in _ (by omega)
  have HM := Lib.hid (show m ≤ k by omega)
  have HK0 := Lib.hid (show k + 1 = hi by omega)
  have HBA := Lib.hid (show a + hi = b by omega)
  clear h hhi hk hm
  go_enter Try.func37, Try.ntmps37
  go_wp2_with fail
  go_loopw [9] (fun s wr => ∃ (i : Nat) (f2 : Nat → Int), i ≤ m + 1 ∧ s = .int .i64 ((i : Int) - 1) ∧ RowF wr g n f2 ∧ Shuf n f f2 ∧ Keeps (· = g) w wr) (fun s _ => (intOf s + 1).toNat)
  case atStart => exact ⟨m + 1, f, Nat.le_refl _, (by congr 1; omega), H0.out, Shuf.refl _ _, Keeps.refl _ _⟩
  case round =>
    obtain ⟨i, f2, him, rfl, hR, hS, hK⟩ := hrel
    have HR2 := Lib.hid hR
    have HS2 := Lib.hid hS
    have HK2 := Lib.hid hK
    clear hR hS hK w1 w2 w3 w4 w5 w7
    by_cases h0 : 1 ≤ i
    · obtain ⟨q, hq⟩ : ∃ q : Nat, (i : Int) - 1 = (q : Int) := ⟨i - 1, by omega⟩
      have q0 : (0 : Int) ≤ (q : Int) := by omega
      have hwq : IntKind.i64.wrap ((q : Int) - 1) = (q : Int) - 1 := IntWalk.i64_in _ (by have := HM.out; have := HK0.out; have := HBA.out; omega)
      have hsf := sift_any g n cap q hi a f2 wr HR2.out (by have := HBA.out; omega) (by have := HM.out; have := HK0.out; have := HBA.out; omega) hn
      have HSF := Lib.hid hsf
      rw [hq]
      have HQ := Lib.hid hq
      clear hsf hq e1 e2 w6
      go_wp2_with fail
      refine HSF.out.mono ?_; rintro e w1 ⟨rfl, f3, r1, r2, r3⟩
      have R1 := Lib.hid r1
      have R2 := Lib.hid (HS2.out.trans r2)
      have R3 := Lib.hid (HK2.out.trans r3)
      clear r1 r2 r3
      go_wp2_with fail
      go_roundw
      case rel => exact ⟨q, f3, by have := HQ.out; omega, rfl, R1.out, R2.out, R3.out⟩
      case measure => (have := HQ.out; simp [intOf]; try omega)
    · obtain rfl : i = 0 := by omega
      have hz : ¬ (0 : Int) ≤ ((0 : Nat) : Int) - 1 := by omega
      have w2 : IntKind.i64.wrap ((hi : Int) - 1) = (k : Int) := by rw [IntWalk.i64_in _ (by have := HK0.out; omega)]; exact e2
      have HE2 := Lib.hid e2
      clear e1
      go_wp2_with fail
      go_loopg [10] (k + 1) (fun gas s wq => ∃ (i : Nat) (f3 : Nat → Int), i = gas ∧ i ≤ k + 1 ∧ s = .int .i64 ((i : Int) - 1) ∧ RowF wq g n f3 ∧ Shuf n f f3 ∧ Keeps (· = g) w wq)
      case atStart => exact ⟨k + 1, f2, rfl, Nat.le_refl _, (by congr 1; omega), HR2.out, HS2.out, HK2.out⟩
      case round =>
        obtain ⟨j, f3, rfl, hjk, rfl, hR, hS, hK⟩ := hrel
        have HR3 := Lib.hid hR
        have HS3 := Lib.hid hS
        have HK3 := Lib.hid hK
        clear hR hS hK w2 w6 e2
        by_cases h1 : 1 ≤ j
        · obtain ⟨q, hq⟩ : ∃ q : Nat, (j : Int) - 1 = (q : Int) := ⟨j - 1, by omega⟩
          obtain ⟨p, hp⟩ : ∃ p : Nat, a + q = p := ⟨_, rfl⟩
          have hpn : p < n := by have := HBA.out; have := HK0.out; omega
          have han : a < n := by omega
          have q0 : (0 : Int) ≤ (q : Int) := by omega
          have p0 : (0 : Int) ≤ (p : Int) := by omega
          have p1 : (p : Int) < (n : Int) := by omega
          have a0 : (0 : Int) ≤ (a : Int) := by omega
          have a1 : (a : Int) < (n : Int) := by omega
          have hwp : IntKind.i64.wrap ((a : Int) + (q : Int)) = (p : Int) := by rw [IntWalk.i64_in _ (by omega)]; omega
          have hwq : IntKind.i64.wrap ((q : Int) - 1) = (q : Int) - 1 := IntWalk.i64_in _ (by omega)
          have c1 := HR3.out.cell (j := a) han
          have c2 := HR3.out.cell (j := p) hpn
          obtain ⟨x, hx⟩ : ∃ x, f3 a = x := ⟨_, rfl⟩
          obtain ⟨y, hy⟩ : ∃ y, f3 p = y := ⟨_, rfl⟩
          rw [hx] at c1
          rw [hy] at c2
          have hf1 := HR3.out.free a
          have hf2 := HR3.out.free p
          obtain ⟨u1, e3⟩ := HR3.out.after a p han hpn y
          have e4 := HR3.out.after_free a p han y
          have hsw := swapped HR3.out a p han hpn
          rw [hx, hy] at hsw
          have HSW := Lib.hid hsw
          rw [hq]
          have HQ := Lib.hid hq
          have HP := Lib.hid hp
          clear hx hy hsw hq hp
          go_wp2_with fail
          go_region_with (fail)
          all_goals
            obtain ⟨s1, s2, s3⟩ := HSW.out
            have hs0 : ∀ f W, RowF W g n f → Calls Try.prog 48 #[.slice (some ⟨g, 0, none⟩) n cap, .int .i64 0, .int .i64 (q : Int), .int .i64 (a : Int)] W fun e w' => e = .returned (.tuple #[]) ∧ Moved W g n f w' := fun f W h => sift_any g n cap 0 q a f W h (by have := HP.out; omega) (Nat.zero_le _) hn
            have HSF := Lib.hid hs0
            have S1 := Lib.hid s1
            have S2 := Lib.hid (HS3.out.trans s2)
            have S3 := Lib.hid (HK3.out.trans s3)
            clear hs0 s1 s2 s3 c1 c2 e3 e4
            go_wp2_with fail
            refine (HSF.out _ _ (RowF.drew S1.out)).mono ?_; rintro e w1 ⟨rfl, f4, r1, r2, r3⟩
            have R1 := Lib.hid r1
            have R2 := Lib.hid (S2.out.trans r2)
            have R3 := Lib.hid (S3.out.drew.trans r3)
            have hqk : q ≤ k + 1 := by have := HQ.out; omega
            have hqj : q < j := by have := HQ.out; omega
            clear r1 r2 r3
            go_wp2_with fail
            go_roundg q
            case rel => exact ⟨q, f4, rfl, hqk, rfl, R1.out, R2.out, R3.out⟩
            all_goals omega
        · obtain rfl : j = 0 := by omega
          go_wp2_with fail
          go_end0
          exact ⟨rfl, f3, HR3.out, HS3.out, HK3.out⟩
end Go.Proofs.Ytnnbjcnfekgngaa
