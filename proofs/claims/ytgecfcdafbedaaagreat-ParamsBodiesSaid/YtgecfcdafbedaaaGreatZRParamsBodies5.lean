/- The walk over slices.heapSortOrdered at spots; The walks over slices.order2Ordered, medianOrdered, medianAdjacentOrdered, choosePivotOrdered at spots. -/
import Derived.Test.YtgecfcdafbedaaaGreatZRParamsBodies4
import Derived.Test.YtgecfcdafbedaaaGreatZRParamsBodies3
namespace Go.Proofs.YtgecfcdafbedaaaGreat
open Go.RowKit Go.Shelf
set_option linter.unusedSimpArgs false
set_option linter.unusedVariables false

set_option maxRecDepth 100000 in
set_option maxHeartbeats 8000000 in
theorem heap_any (g n cap a b : Nat) (f : Nat → Int) (w : World) (h : RowF w g n f) (hab : a < b) (hbn : b ≤ n) (hn : n ≤ 1152921504606846976) :
    Calls Tryz.prog 89 #[.slice (some ⟨g, 0, none⟩) n cap, .int .i64 (a : Int), .int .i64 (b : Int)] w fun e w' => e = .returned (.tuple #[]) ∧ Moved w g n f w' := by
  have H0 := Lib.hid h
  obtain ⟨hi, hhi⟩ : ∃ hi : Nat, b - a = hi := ⟨_, rfl⟩
  have w1 : IntKind.i64.wrap ((b : Int) - (a : Int)) = (hi : Int) := by rw [IntWalk.i64_in _ (by omega)]; omega
  have e1 : (b : Int) - (a : Int) = (hi : Int) := by omega
  obtain ⟨k, hk⟩ : ∃ k : Nat, hi - 1 = k := ⟨_, rfl⟩
  have w2 : IntKind.i64.wrap ((hi : Int) - 1) = (k : Int) := by rw [IntWalk.i64_in _ (by omega)]; omega
  have e2 : (hi : Int) - 1 = (k : Int) := by omega
  obtain ⟨m, hm⟩ : ∃ m : Nat, k / 2 = m := ⟨_, rfl⟩
  have w3 : (k : Int) / 2 = (m : Int) := by omega
  have w4 : (k : Int).tdiv 2 = (m : Int) := by rw [Int.tdiv_eq_ediv_of_nonneg (by omega)]; exact w3
  have w5 : IntKind.i64.wrap (m : Int) = (m : Int) := IntWalk.i64_in _ (by omega)
  have w6 : IntKind.i64.wrap (k : Int) = (k : Int) := IntWalk.i64_in _ (by omega)
  have w7 : IntKind.i64.wrap (hi : Int) = (hi : Int) := IntWalk.i64_in _ (by omega)
  have HM := Lib.hid (show m ≤ k by omega)
  have HK0 := Lib.hid (show k + 1 = hi by omega)
  have HBA := Lib.hid (show a + hi = b by omega)
  clear h hhi hk hm
  go_enter Tryz.func89, Tryz.ntmps89
  go_wp2_with fail
  go_loopw [9] (fun s wr => ∃ (i : Nat) (f2 : Nat → Int), i ≤ m + 1 ∧ s = .int .i64 ((i : Int) - 1) ∧ RowF wr g n f2 ∧ Shuf n f f2 ∧ Keeps (· = g) w wr) (fun s _ => (intOf s + 1).toNat)
  case atStart => exact ⟨m + 1, f, Nat.le_refl _, (by congr 1; omega), H0.out, Shuf.refl _ _, Keeps.refl _ _⟩
  case round =>
    obtain ⟨i, f2, him, rfl, hR, hS, hK⟩ := hrel
    have HR2 := Lib.hid hR
    have HS2 := Lib.hid hS
    have HK2 := Lib.hid hK
    clear hR hS hK w1 w2 w3 w4 w5 w7
    by_cases h0 : 1 ≤ i
    · obtain ⟨q, hq⟩ : ∃ q : Nat, (i : Int) - 1 = (q : Int) := ⟨i - 1, by omega⟩
      have q0 : (0 : Int) ≤ (q : Int) := by omega
      have hwq : IntKind.i64.wrap ((q : Int) - 1) = (q : Int) - 1 := IntWalk.i64_in _ (by have := HM.out; have := HK0.out; have := HBA.out; omega)
      have hsf := sift_any g n cap q hi a f2 wr HR2.out (by have := HBA.out; omega) (by have := HM.out; have := HK0.out; have := HBA.out; omega) hn
      have HSF := Lib.hid hsf
      rw [hq]
      have HQ := Lib.hid hq
      clear hsf hq e1 e2 w6
      go_wp2_with fail
      refine HSF.out.mono ?_; rintro e w1 ⟨rfl, f3, r1, r2, r3⟩
      have R1 := Lib.hid r1
      have R2 := Lib.hid (HS2.out.trans r2)
      have R3 := Lib.hid (HK2.out.trans r3)
      clear r1 r2 r3
      go_wp2_with fail
      go_roundw
      case rel => exact ⟨q, f3, by have := HQ.out; omega, rfl, R1.out, R2.out, R3.out⟩
      case measure => (have := HQ.out; simp [intOf]; try omega)
    · obtain rfl : i = 0 := by omega
      have hz : ¬ (0 : Int) ≤ ((0 : Nat) : Int) - 1 := by omega
      have w2 : IntKind.i64.wrap ((hi : Int) - 1) = (k : Int) := by rw [IntWalk.i64_in _ (by have := HK0.out; omega)]; exact e2
      have HE2 := Lib.hid e2
      clear e1
      go_wp2_with fail
      go_loopg [10] (k + 1) (fun gas s wq => ∃ (i : Nat) (f3 : Nat → Int), i = gas ∧ i ≤ k + 1 ∧ s = .int .i64 ((i : Int) - 1) ∧ RowF wq g n f3 ∧ Shuf n f f3 ∧ Keeps (· = g) w wq)
      case atStart => exact ⟨k + 1, f2, rfl, Nat.le_refl _, (by congr 1; omega), HR2.out, HS2.out, HK2.out⟩
      case round =>
        obtain ⟨j, f3, rfl, hjk, rfl, hR, hS, hK⟩ := hrel
        have HR3 := Lib.hid hR
        have HS3 := Lib.hid hS
        have HK3 := Lib.hid hK
        clear hR hS hK w2 w6 e2
        by_cases h1 : 1 ≤ j
        · obtain ⟨q, hq⟩ : ∃ q : Nat, (j : Int) - 1 = (q : Int) := ⟨j - 1, by omega⟩
          obtain ⟨p, hp⟩ : ∃ p : Nat, a + q = p := ⟨_, rfl⟩
          have hpn : p < n := by have := HBA.out; have := HK0.out; omega
          have han : a < n := by omega
          have q0 : (0 : Int) ≤ (q : Int) := by omega
          have p0 : (0 : Int) ≤ (p : Int) := by omega
          have p1 : (p : Int) < (n : Int) := by omega
          have a0 : (0 : Int) ≤ (a : Int) := by omega
          have a1 : (a : Int) < (n : Int) := by omega
          have hwp : IntKind.i64.wrap ((a : Int) + (q : Int)) = (p : Int) := by rw [IntWalk.i64_in _ (by omega)]; omega
          have hwq : IntKind.i64.wrap ((q : Int) - 1) = (q : Int) - 1 := IntWalk.i64_in _ (by omega)
          have c1 := HR3.out.cell (j := a) han
          have c2 := HR3.out.cell (j := p) hpn
          obtain ⟨x, hx⟩ : ∃ x, f3 a = x := ⟨_, rfl⟩
          obtain ⟨y, hy⟩ : ∃ y, f3 p = y := ⟨_, rfl⟩
          rw [hx] at c1
          rw [hy] at c2
          have hf1 := HR3.out.free a
          have hf2 := HR3.out.free p
          obtain ⟨u1, e3⟩ := HR3.out.after a p han hpn y
          have e4 := HR3.out.after_free a p han y
          have hsw := swapped HR3.out a p han hpn
          rw [hx, hy] at hsw
          have HSW := Lib.hid hsw
          rw [hq]
          have HQ := Lib.hid hq
          have HP := Lib.hid hp
          clear hx hy hsw hq hp
          go_wp2_with fail
          go_region_with (fail)
          all_goals
            obtain ⟨s1, s2, s3⟩ := HSW.out
            have hs0 : ∀ f W, RowF W g n f → Calls Tryz.prog 100 #[.slice (some ⟨g, 0, none⟩) n cap, .int .i64 0, .int .i64 (q : Int), .int .i64 (a : Int)] W fun e w' => e = .returned (.tuple #[]) ∧ Moved W g n f w' := fun f W h => sift_any g n cap 0 q a f W h (by have := HP.out; omega) (Nat.zero_le _) hn
            have HSF := Lib.hid hs0
            have S1 := Lib.hid s1
            have S2 := Lib.hid (HS3.out.trans s2)
            have S3 := Lib.hid (HK3.out.trans s3)
            clear hs0 s1 s2 s3 c1 c2 e3 e4
            go_wp2_with fail
            refine (HSF.out _ _ (RowF.drew S1.out)).mono ?_; rintro e w1 ⟨rfl, f4, r1, r2, r3⟩
            have R1 := Lib.hid r1
            have R2 := Lib.hid (S2.out.trans r2)
            have R3 := Lib.hid (S3.out.drew.trans r3)
            have hqk : q ≤ k + 1 := by have := HQ.out; omega
            have hqj : q < j := by have := HQ.out; omega
            clear r1 r2 r3
            go_wp2_with fail
            go_roundg q
            case rel => exact ⟨q, f4, rfl, hqk, rfl, R1.out, R2.out, R3.out⟩
            all_goals omega
        · obtain rfl : j = 0 := by omega
          go_wp2_with fail
          go_end0
          exact ⟨rfl, f3, HR3.out, HS3.out, HK3.out⟩
end Go.Proofs.YtgecfcdafbedaaaGreat

namespace Go.Proofs.YtgecfcdafbedaaaGreat
open Go.RowKit Go.Shelf
set_option linter.unusedSimpArgs false
set_option linter.unusedVariables false

/-- The row of spots, and a counter beside it. -/
structure Cnt (w : World) (g n : Nat) (f : Nat → Int) (S : Nat) : Prop where
  row : RowF w g n f
  box : ∃ v, Blk w S 3 [.int .i64 v]
  ne : S ≠ g
theorem Cnt.drew {w : World} {g n : Nat} {f : Nat → Int} {S : Nat} (h : Cnt w g n f S) : Cnt w.drew g n f S := ⟨h.row, h.box, h.ne⟩
theorem Cnt.put {w : World} {g n : Nat} {f : Nat → Int} {S : Nat} (h : Cnt w g n f S) (v : Int) : Cnt (w.setCell ⟨S, 0, none⟩ (.int .i64 v)) g n f S := by
  obtain ⟨u, hu⟩ := h.box
  exact ⟨h.row.keep (Keeps.set1 w ⟨S, 0, none⟩ _) (fun e => h.ne e.symm), ⟨v, by simpa using hu.put 0 (.int .i64 v)⟩, h.ne⟩

set_option maxRecDepth 100000 in
set_option maxHeartbeats 4000000 in
theorem order2_any (g n cap a b S : Nat) (f : Nat → Int) (w : World) (h : Cnt w g n f S) (ha : a < n) (hb : b < n) (hn : n ≤ 1152921504606846976) :
    Calls Tryz.prog 106 #[.slice (some ⟨g, 0, none⟩) n cap, .int .i64 (a : Int), .int .i64 (b : Int), .pointer (some ⟨S, 0, none⟩)] w fun e w' => ∃ x y : Nat, e = .returned (.tuple #[.int .i64 (x : Int), .int .i64 (y : Int)]) ∧ ((x = a ∧ y = b) ∨ (x = b ∧ y = a)) ∧ Cnt w' g n f S ∧ Keeps (· = S) w w' := by
  obtain ⟨v, hv⟩ := h.box
  have c1 := h.row.cell (j := a) ha
  have c2 := h.row.cell (j := b) hb
  have c3 : w.cell? ⟨S, 0, none⟩ = some (.int .i64 v) := hv.cell 0
  have c4 := hv.free 0
  have H0 := Lib.hid h
  generalize f a = x at c1
  generalize f b = y at c2
  have a0 : (0 : Int) ≤ (a : Int) := by omega
  have a1 : (a : Int) < (n : Int) := by omega
  have b0 : (0 : Int) ≤ (b : Int) := by omega
  have b1 : (b : Int) < (n : Int) := by omega
  have hls := lessF_any y x
  clear h hv
  by_cases hxy : y < x
  · rw [decide_eq_true hxy] at hls
    have HLS := Lib.hid hls
    clear hls
    go_enter Tryz.func106, Tryz.ntmps106
    go_wp2_with fail
    refine wp_region_noPanic ?_
    refine wp_region_held_drew (S := (fun w' => w'.cell? ⟨g, a, none⟩ = some (.int .u32 x) ∧ w'.cell? ⟨g, b, none⟩ = some (.int .u32 y))) (by kernel_rfl) ?_ (fun hHeld => ?_)
    · ((try dsimp only); refine ⟨?_, ?_⟩ <;> (first | assumption | (go_keep; done)))
    refine wpAnyH_take (i := 0) (oi := ⟨some 10, _, _, _, _, _⟩) (v := ?_) rfl (by kernel_rfl) (by kernel_rfl) (by kernel_rfl) (fun _ _ _ h => False.elim h) (Or.inl ⟨by rfl, ?_⟩) (by assumption) ?_
    rotate_left
    · intro w hSw
      (try dsimp only at hSw)
      go_simp
      all_goals with_reducible rfl
    (try simp only [Act.put, List.setIfInBounds_toArray, List.set_cons_zero, List.set_cons_succ])
    refine wpAnyH_take (i := 1) (oi := ⟨some 11, _, _, _, _, _⟩) (v := ?_) rfl (by kernel_rfl) (by kernel_rfl) (by kernel_rfl) (fun _ _ _ h => False.elim h) (Or.inl ⟨by rfl, ?_⟩) (by assumption) ?_
    rotate_left
    · intro w hSw
      (try dsimp only at hSw)
      go_simp
      all_goals with_reducible rfl
    (try simp only [Act.put, List.setIfInBounds_toArray, List.set_cons_zero, List.set_cons_succ])
    refine wpAnyH_take (i := 2) (oi := ⟨some 12, _, _, _, _, _⟩) (v := ?_) rfl (by kernel_rfl) (by kernel_rfl) (by kernel_rfl) (fun _ _ _ h => False.elim h) (Or.inl ⟨by rfl, ?_⟩) (by assumption) ?_
    rotate_left
    · intro w hSw
      (try dsimp only at hSw)
      go_simp
      all_goals with_reducible rfl
    (try simp only [Act.put, List.setIfInBounds_toArray, List.set_cons_zero, List.set_cons_succ])
    refine wpAnyH_take (i := 3) (oi := ⟨some 13, _, _, _, _, _⟩) (v := ?_) rfl (by kernel_rfl) (by kernel_rfl) (by kernel_rfl) (fun _ _ _ h => False.elim h) (Or.inl ⟨by rfl, ?_⟩) (by assumption) ?_
    rotate_left
    · intro w hSw
      (try dsimp only at hSw)
      go_simp
      all_goals with_reducible rfl
    (try simp only [Act.put, List.setIfInBounds_toArray, List.set_cons_zero, List.set_cons_succ])
    refine wpAnyH_take (i := 4) (oi := ⟨some 14, _, _, _, _, _⟩) (v := ?_) rfl (by kernel_rfl) (by kernel_rfl) (by kernel_rfl) (fun _ _ _ h => False.elim h) (Or.inl ⟨by rfl, ?_⟩) (by assumption) ?_
    rotate_left
    · intro w hSw
      (try dsimp only at hSw)
      go_simp
      all_goals with_reducible rfl
    (try simp only [Act.put, List.setIfInBounds_toArray, List.set_cons_zero, List.set_cons_succ])
    refine wpAnyH_take (i := 5) (oi := ⟨some 15, _, _, _, _, _⟩) (v := ?_) rfl (by kernel_rfl) (by kernel_rfl) (by kernel_rfl) (fun _ _ _ h => False.elim h) (Or.inl ⟨by rfl, ?_⟩) (by assumption) ?_
    rotate_left
    · intro w hSw
      (try dsimp only at hSw)
      go_simp
      all_goals with_reducible rfl
    (try simp only [Act.put, List.setIfInBounds_toArray, List.set_cons_zero, List.set_cons_succ])
    refine wpAnyH_take (i := 6) (oi := ⟨some 16, _, _, _, _, _⟩) (v := ?_) rfl (by kernel_rfl) (by kernel_rfl) (by kernel_rfl) (fun _ _ _ h => False.elim h) (Or.inl ⟨by rfl, ?_⟩) (by assumption) ?_
    rotate_left
    · intro w hSw
      (try dsimp only at hSw)
      go_simp
      all_goals with_reducible rfl
    (try simp only [Act.put, List.setIfInBounds_toArray, List.set_cons_zero, List.set_cons_succ])
    refine wpAnyH_take (i := 7) (oi := ⟨some 17, _, _, _, _, _⟩) (v := ?_) rfl (by kernel_rfl) (by kernel_rfl) (by kernel_rfl) (fun _ _ _ h => False.elim h) (Or.inl ⟨by rfl, ?_⟩) (by assumption) ?_
    rotate_left
    · intro w hSw
      (try dsimp only at hSw)
      go_simp
      all_goals with_reducible rfl
    (try simp only [Act.put, List.setIfInBounds_toArray, List.set_cons_zero, List.set_cons_succ])
    refine wpAnyH_ready (rs := [8]) (by kernel_rfl) (by simp) ?_
    refine AllReadyH.cons (o := ⟨some 18, _, _, _, _, _⟩) rfl (fun K hK => ?_) AllReadyH.nil
    go_simp
    (refine (HLS.out _).mono ?_; rintro en wc ⟨rfl, rfl⟩)
    (try go_wp2_with fail)
    refine hK.out _ _ ?_ (fun hHeld => ?_)
    · ((try dsimp only); refine ⟨?_, ?_⟩ <;> (first | assumption | (go_keep; done)))
    clear hK K
    (try simp only [Act.put, List.setIfInBounds_toArray, List.set_cons_zero, List.set_cons_succ])
    refine wpAnyH_done (by kernel_rfl) ?_ _
    refine NoPanic.normal ?_
    go_wp2_with fail
    go_ret2
    exact ⟨b, a, rfl, .inr ⟨rfl, rfl⟩, (H0.out.put _).drew, (Keeps.set1 w ⟨S, 0, none⟩ _).drew⟩
  · rw [decide_eq_false hxy] at hls
    have HLS := Lib.hid hls
    clear hls
    go_enter Tryz.func106, Tryz.ntmps106
    go_wp2_with fail
    refine wp_region_noPanic ?_
    refine wp_region_held_drew (S := (fun w' => w'.cell? ⟨g, a, none⟩ = some (.int .u32 x) ∧ w'.cell? ⟨g, b, none⟩ = some (.int .u32 y))) (by kernel_rfl) ?_ (fun hHeld => ?_)
    · ((try dsimp only); refine ⟨?_, ?_⟩ <;> (first | assumption | (go_keep; done)))
    refine wpAnyH_take (i := 0) (oi := ⟨some 10, _, _, _, _, _⟩) (v := ?_) rfl (by kernel_rfl) (by kernel_rfl) (by kernel_rfl) (fun _ _ _ h => False.elim h) (Or.inl ⟨by rfl, ?_⟩) (by assumption) ?_
    rotate_left
    · intro w hSw
      (try dsimp only at hSw)
      go_simp
      all_goals with_reducible rfl
    (try simp only [Act.put, List.setIfInBounds_toArray, List.set_cons_zero, List.set_cons_succ])
    refine wpAnyH_take (i := 1) (oi := ⟨some 11, _, _, _, _, _⟩) (v := ?_) rfl (by kernel_rfl) (by kernel_rfl) (by kernel_rfl) (fun _ _ _ h => False.elim h) (Or.inl ⟨by rfl, ?_⟩) (by assumption) ?_
    rotate_left
    · intro w hSw
      (try dsimp only at hSw)
      go_simp
      all_goals with_reducible rfl
    (try simp only [Act.put, List.setIfInBounds_toArray, List.set_cons_zero, List.set_cons_succ])
    refine wpAnyH_take (i := 2) (oi := ⟨some 12, _, _, _, _, _⟩) (v := ?_) rfl (by kernel_rfl) (by kernel_rfl) (by kernel_rfl) (fun _ _ _ h => False.elim h) (Or.inl ⟨by rfl, ?_⟩) (by assumption) ?_
    rotate_left
    · intro w hSw
      (try dsimp only at hSw)
      go_simp
      all_goals with_reducible rfl
    (try simp only [Act.put, List.setIfInBounds_toArray, List.set_cons_zero, List.set_cons_succ])
    refine wpAnyH_take (i := 3) (oi := ⟨some 13, _, _, _, _, _⟩) (v := ?_) rfl (by kernel_rfl) (by kernel_rfl) (by kernel_rfl) (fun _ _ _ h => False.elim h) (Or.inl ⟨by rfl, ?_⟩) (by assumption) ?_
    rotate_left
    · intro w hSw
      (try dsimp only at hSw)
      go_simp
      all_goals with_reducible rfl
    (try simp only [Act.put, List.setIfInBounds_toArray, List.set_cons_zero, List.set_cons_succ])
    refine wpAnyH_take (i := 4) (oi := ⟨some 14, _, _, _, _, _⟩) (v := ?_) rfl (by kernel_rfl) (by kernel_rfl) (by kernel_rfl) (fun _ _ _ h => False.elim h) (Or.inl ⟨by rfl, ?_⟩) (by assumption) ?_
    rotate_left
    · intro w hSw
      (try dsimp only at hSw)
      go_simp
      all_goals with_reducible rfl
    (try simp only [Act.put, List.setIfInBounds_toArray, List.set_cons_zero, List.set_cons_succ])
    refine wpAnyH_take (i := 5) (oi := ⟨some 15, _, _, _, _, _⟩) (v := ?_) rfl (by kernel_rfl) (by kernel_rfl) (by kernel_rfl) (fun _ _ _ h => False.elim h) (Or.inl ⟨by rfl, ?_⟩) (by assumption) ?_
    rotate_left
    · intro w hSw
      (try dsimp only at hSw)
      go_simp
      all_goals with_reducible rfl
    (try simp only [Act.put, List.setIfInBounds_toArray, List.set_cons_zero, List.set_cons_succ])
    refine wpAnyH_take (i := 6) (oi := ⟨some 16, _, _, _, _, _⟩) (v := ?_) rfl (by kernel_rfl) (by kernel_rfl) (by kernel_rfl) (fun _ _ _ h => False.elim h) (Or.inl ⟨by rfl, ?_⟩) (by assumption) ?_
    rotate_left
    · intro w hSw
      (try dsimp only at hSw)
      go_simp
      all_goals with_reducible rfl
    (try simp only [Act.put, List.setIfInBounds_toArray, List.set_cons_zero, List.set_cons_succ])
    refine wpAnyH_take (i := 7) (oi := ⟨some 17, _, _, _, _, _⟩) (v := ?_) rfl (by kernel_rfl) (by kernel_rfl) (by kernel_rfl) (fun _ _ _ h => False.elim h) (Or.inl ⟨by rfl, ?_⟩) (by assumption) ?_
    rotate_left
    · intro w hSw
      (try dsimp only at hSw)
      go_simp
      all_goals with_reducible rfl
    (try simp only [Act.put, List.setIfInBounds_toArray, List.set_cons_zero, List.set_cons_succ])
    refine wpAnyH_ready (rs := [8]) (by kernel_rfl) (by simp) ?_
    refine AllReadyH.cons (o := ⟨some 18, _, _, _, _, _⟩) rfl (fun K hK => ?_) AllReadyH.nil
    go_simp
    (refine (HLS.out _).mono ?_; rintro en wc ⟨rfl, rfl⟩)
    (try go_wp2_with fail)
    refine hK.out _ _ ?_ (fun hHeld => ?_)
    · ((try dsimp only); refine ⟨?_, ?_⟩ <;> (first | assumption | (go_keep; done)))
    clear hK K
    (try simp only [Act.put, List.setIfInBounds_toArray, List.set_cons_zero, List.set_cons_succ])
    refine wpAnyH_done (by kernel_rfl) ?_ _
    refine NoPanic.normal ?_
    go_wp2_with fail
    go_ret2
    exact ⟨a, b, rfl, .inl ⟨rfl, rfl⟩, H0.out.drew, (Keeps.refl _ _).drew⟩

set_option maxRecDepth 100000 in
set_option maxHeartbeats 4000000 in
theorem median_any (g n cap a b c S : Nat) (f : Nat → Int) (w : World) (h : Cnt w g n f S) (ha : a < n) (hb : b < n) (hc : c < n) (hn : n ≤ 1152921504606846976) :
    Calls Tryz.prog 104 #[.slice (some ⟨g, 0, none⟩) n cap, .int .i64 (a : Int), .int .i64 (b : Int), .int .i64 (c : Int), .pointer (some ⟨S, 0, none⟩)] w fun e w' => ∃ m : Nat, e = .returned (.int .i64 (m : Int)) ∧ (m = a ∨ m = b ∨ m = c) ∧ Cnt w' g n f S ∧ Keeps (· = S) w w' := by
  have H1 := Lib.hid (order2_any g n cap a b S f w h ha hb hn)
  clear h
  go_enter Tryz.func104, Tryz.ntmps104
  go_wp2_with fail
  refine H1.out.mono ?_; rintro e w1 ⟨x1, y1, rfl, hx1, h1, k1⟩
  have hx1n : x1 < n := by omega
  have hy1n : y1 < n := by omega
  have HX1 := Lib.hid hx1
  have K1 := Lib.hid k1
  have H2 := Lib.hid (order2_any g n cap y1 c S f w1 h1 hy1n hc hn)
  clear hx1 h1 k1
  go_wp2_with fail
  refine H2.out.mono ?_; rintro e w2 ⟨x2, y2, rfl, hx2, h2, k2⟩
  have hx2n : x2 < n := by omega
  have HX2 := Lib.hid hx2
  have K2 := Lib.hid (K1.out.trans k2)
  have H3 := Lib.hid (order2_any g n cap x1 x2 S f w2 h2 hx1n hx2n hn)
  clear hx2 h2 k2
  go_wp2_with fail
  refine H3.out.mono ?_; rintro e w3 ⟨x3, y3, rfl, hx3, h3, k3⟩
  have HX3 := Lib.hid hx3
  have HC3 := Lib.hid h3
  have K3 := Lib.hid (K2.out.trans k3)
  clear hx3 h3 k3
  go_wp2_with fail
  go_ret
  exact ⟨y3, rfl, by have := HX1.out; have := HX2.out; have := HX3.out; omega, HC3.out, K3.out⟩

set_option maxRecDepth 100000 in
set_option maxHeartbeats 4000000 in
theorem medadj_any (g n cap a S : Nat) (f : Nat → Int) (w : World) (h : Cnt w g n f S) (ha : 1 ≤ a) (hb : a + 1 < n) (hn : n ≤ 1152921504606846976) :
    Calls Tryz.prog 103 #[.slice (some ⟨g, 0, none⟩) n cap, .int .i64 (a : Int), .pointer (some ⟨S, 0, none⟩)] w fun e w' => ∃ m : Nat, e = .returned (.int .i64 (m : Int)) ∧ a ≤ m + 1 ∧ m ≤ a + 1 ∧ Cnt w' g n f S ∧ Keeps (· = S) w w' := by
  obtain ⟨p, hp⟩ : ∃ p : Nat, a - 1 = p := ⟨_, rfl⟩
  obtain ⟨q, hq⟩ : ∃ q : Nat, a + 1 = q := ⟨_, rfl⟩
  have H1 := Lib.hid (median_any g n cap p a q S f w h (by omega) (by omega) (by omega) hn)
  have e1 : (a : Int) - 1 = (p : Int) := by omega
  have e2 : (a : Int) + 1 = (q : Int) := by omega
  have e3 : IntKind.i64.wrap (p : Int) = (p : Int) := IntWalk.i64_in _ (by omega)
  have e4 : IntKind.i64.wrap (q : Int) = (q : Int) := IntWalk.i64_in _ (by omega)
  have HP := Lib.hid hp
  have HQ := Lib.hid hq
  clear h hp hq
  go_enter Tryz.func103, Tryz.ntmps103
  go_wp2_with fail
  refine H1.out.mono ?_; rintro e w1 ⟨m, rfl, hm, h1, k1⟩
  have HM := Lib.hid hm
  have HC := Lib.hid h1
  have K1 := Lib.hid k1
  clear hm h1 k1
  go_wp2_with fail
  go_ret
  exact ⟨m, rfl, by have := HM.out; have := HP.out; have := HQ.out; omega, by have := HM.out; have := HP.out; have := HQ.out; omega, HC.out, K1.out⟩


set_option maxRecDepth 100000 in
set_option maxHeartbeats 8000000 in
theorem choose_any (g n cap a b : Nat) (f : Nat → Int) (w : World) (h : RowF w g n f) (hab : a + 12 < b) (hbn : b ≤ n) (hn : n ≤ 1152921504606846976) :
    Calls Tryz.prog 91 #[.slice (some ⟨g, 0, none⟩) n cap, .int .i64 (a : Int), .int .i64 (b : Int)] w fun e w' => ∃ (p : Nat) (hint : Int), e = .returned (.tuple #[.int .i64 (p : Int), .int .i64 hint]) ∧ a ≤ p ∧ p < b ∧ RowF w' g n f ∧ Below w.heap.size w w' := by
  obtain ⟨l, hl⟩ : ∃ l : Nat, b - a = l := ⟨_, rfl⟩
  obtain ⟨m, hm⟩ : ∃ m : Nat, l / 4 = m := ⟨_, rfl⟩
  have e1 : (b : Int) - (a : Int) = (l : Int) := by omega
  have w1 : IntKind.i64.wrap (l : Int) = (l : Int) := IntWalk.i64_in _ (by omega)
  have e2 : (l : Int) / 4 = (m : Int) := by omega
  have e3 : (l : Int).tdiv 4 = (m : Int) := by rw [Int.tdiv_eq_ediv_of_nonneg (by omega)]; exact e2
  have w2 : IntKind.i64.wrap (m : Int) = (m : Int) := IntWalk.i64_in _ (by omega)
  obtain ⟨i, hi⟩ : ∃ i : Nat, a + m = i := ⟨_, rfl⟩
  obtain ⟨j, hj⟩ : ∃ j : Nat, a + m * 2 = j := ⟨_, rfl⟩
  obtain ⟨k, hk⟩ : ∃ k : Nat, a + m * 3 = k := ⟨_, rfl⟩
  have f1 : (a : Int) + (m : Int) * 1 = (i : Int) := by omega
  have f2 : (a : Int) + (m : Int) * 2 = (j : Int) := by omega
  have f3 : (a : Int) + (m : Int) * 3 = (k : Int) := by omega
  have f4 : (a : Int) + (m : Int) = (i : Int) := by omega
  have v1 : IntKind.i64.wrap ((m : Int) * 1) = (m : Int) * 1 := IntWalk.i64_in _ (by omega)
  have v2 : IntKind.i64.wrap ((m : Int) * 2) = (m : Int) * 2 := IntWalk.i64_in _ (by omega)
  have v3 : IntKind.i64.wrap ((m : Int) * 3) = (m : Int) * 3 := IntWalk.i64_in _ (by omega)
  have v4 : IntKind.i64.wrap (i : Int) = (i : Int) := IntWalk.i64_in _ (by omega)
  have v5 : IntKind.i64.wrap (j : Int) = (j : Int) := IntWalk.i64_in _ (by omega)
  have v6 : IntKind.i64.wrap (k : Int) = (k : Int) := IntWalk.i64_in _ (by omega)
  have hB := (Below.refl w.heap.size w).alloc (Nat.le_refl _) (.cells #[.int .i64 0] 3)
  have hc0 : Cnt (w.alloc (.cells #[.int .i64 0] 3)) g n f w.heap.size := ⟨h.below hB, ⟨0, Blk.new w 3 [.int .i64 0]⟩, fun e => by have := h.lt; omega⟩
  have hg := h.lt
  obtain ⟨W1, hW1⟩ : ∃ W1, w.alloc (.cells #[.int .i64 0] 3) = W1 := ⟨_, rfl⟩
  obtain ⟨S, hS⟩ : ∃ S, w.heap.size = S := ⟨_, rfl⟩
  rw [hW1] at hB hc0
  rw [hS] at hc0
  have HB := Lib.hid hB
  have HC0 := Lib.hid hc0
  have HW1 := Lib.hid hW1
  have HS := Lib.hid hS
  have HFACT := Lib.hid (show a + 3 ≤ i ∧ i + 3 ≤ j ∧ j + 3 ≤ k ∧ k + 3 ≤ b by omega)
  have hl8 : (8 : Int) ≤ (l : Int) := by omega
  clear h hl hm hi hj hk hB hc0 hW1 hg
  have hadj : ∀ (x : Nat) W, Cnt W g n f S → 1 ≤ x → x + 1 < n → Calls Tryz.prog 103 #[.slice (some ⟨g, 0, none⟩) n cap, .int .i64 (x : Int), .pointer (some ⟨S, 0, none⟩)] W fun e w' => ∃ m : Nat, e = .returned (.int .i64 (m : Int)) ∧ x ≤ m + 1 ∧ m ≤ x + 1 ∧ Cnt w' g n f S ∧ Keeps (· = S) W w' := fun x W h h1 h2 => medadj_any g n cap x S f W h h1 h2 hn
  have hmed : ∀ (x y z : Nat) W, Cnt W g n f S → x < n → y < n → z < n → Calls Tryz.prog 104 #[.slice (some ⟨g, 0, none⟩) n cap, .int .i64 (x : Int), .int .i64 (y : Int), .int .i64 (z : Int), .pointer (some ⟨S, 0, none⟩)] W fun e w' => ∃ m : Nat, e = .returned (.int .i64 (m : Int)) ∧ (m = x ∨ m = y ∨ m = z) ∧ Cnt w' g n f S ∧ Keeps (· = S) W w' := fun x y z W h h1 h2 h3 => median_any g n cap x y z S f W h h1 h2 h3 hn
  have HADJ := Lib.hid hadj
  have HMED := Lib.hid hmed
  clear hadj hmed
  by_cases h50 : 50 ≤ l
  · have h50' : (50 : Int) ≤ (l : Int) := by omega
    go_enter Tryz.func91, Tryz.ntmps91
    go_wp2_with fail
    rw [HW1.out]
    clear hS
    refine (HADJ.out i W1 HC0.out (by have := HFACT.out; omega) (by have := HFACT.out; omega)).mono ?_; rintro e wa ⟨i2, rfl, hi1, hi2, hca, hka⟩
    have HI := Lib.hid (And.intro hi1 hi2)
    have HCA := Lib.hid hca
    have HKA := Lib.hid hka
    clear hi1 hi2 hca hka
    go_wp2_with fail
    refine (HADJ.out j wa HCA.out (by have := HFACT.out; omega) (by have := HFACT.out; omega)).mono ?_; rintro e wb ⟨j2, rfl, hj1, hj2, hcb, hkb⟩
    have HJ := Lib.hid (And.intro hj1 hj2)
    have HCB := Lib.hid hcb
    have HKB := Lib.hid (HKA.out.trans hkb)
    clear hj1 hj2 hcb hkb
    go_wp2_with fail
    refine (HADJ.out k wb HCB.out (by have := HFACT.out; omega) (by have := HFACT.out; omega)).mono ?_; rintro e wc ⟨k2, rfl, hk1, hk2, hcc, hkc⟩
    have HK := Lib.hid (And.intro hk1 hk2)
    have HCC := Lib.hid hcc
    have HKC := Lib.hid (HKB.out.trans hkc)
    clear hk1 hk2 hcc hkc
    go_wp2_with fail
    refine (HMED.out i2 j2 k2 wc HCC.out (by have := HFACT.out; have := HI.out; omega) (by have := HFACT.out; have := HJ.out; omega) (by have := HFACT.out; have := HK.out; omega)).mono ?_; rintro e WE ⟨p, rfl, hp, hcd, hkd⟩
    have HPA : Hid (a ≤ p) := Lib.hid (by have := HFACT.out; have := HI.out; have := HJ.out; have := HK.out; omega)
    have HPB : Hid (p < b) := Lib.hid (by have := HFACT.out; have := HI.out; have := HJ.out; have := HK.out; omega)
    have HCN := Lib.hid hcd
    have HBE : Hid (Below w.heap.size w WE) := Lib.hid (below_keeps HB.out (HKC.out.trans hkd) (Nat.le_refl _) (fun i hi => by rw [hi, HS.out]; exact Nat.le_refl _))
    clear hp hcd hkd
    have hcn := HCN.out
    obtain ⟨v, hv⟩ := hcn.box
    have c1 : WE.cell? ⟨S, 0, none⟩ = some (.int .i64 v) := hv.cell 0
    have HRF := Lib.hid hcn.row
    clear hcn hv HCN
    by_cases hv0 : v = 0
    · subst hv0
      go_wp2_with fail
      go_ret2
      exact ⟨p, 1, rfl, HPA.out, HPB.out, HRF.out, HBE.out⟩
    · have hz0 : (v == 0) = false := beq_eq_false_iff_ne.2 hv0
      by_cases hv2 : v = 12
      · have hz2 : (v == 12) = true := beq_iff_eq.2 hv2
        go_wp2_with fail
        go_ret2
        exact ⟨p, 2, rfl, HPA.out, HPB.out, HRF.out, HBE.out⟩
      · have hz2 : (v == 12) = false := beq_eq_false_iff_ne.2 hv2
        go_wp2_with fail
        go_ret2
        exact ⟨p, 0, rfl, HPA.out, HPB.out, HRF.out, HBE.out⟩
  · have h50' : ¬ (50 : Int) ≤ (l : Int) := by omega
    go_enter Tryz.func91, Tryz.ntmps91
    go_wp2_with fail
    rw [HW1.out]
    clear hS
    refine (HMED.out i j k W1 HC0.out (by have := HFACT.out; omega) (by have := HFACT.out; omega) (by have := HFACT.out; omega)).mono ?_; rintro e WE ⟨p, rfl, hp, hcd, hkd⟩
    have HPA : Hid (a ≤ p) := Lib.hid (by have := HFACT.out; omega)
    have HPB : Hid (p < b) := Lib.hid (by have := HFACT.out; omega)
    have HCN := Lib.hid hcd
    have HBE : Hid (Below w.heap.size w WE) := Lib.hid (below_keeps HB.out hkd (Nat.le_refl _) (fun i hi => by rw [hi, HS.out]; exact Nat.le_refl _))
    clear hp hcd hkd
    have hcn := HCN.out
    obtain ⟨v, hv⟩ := hcn.box
    have c1 : WE.cell? ⟨S, 0, none⟩ = some (.int .i64 v) := hv.cell 0
    have HRF := Lib.hid hcn.row
    clear hcn hv HCN
    by_cases hv0 : v = 0
    · subst hv0
      go_wp2_with fail
      go_ret2
      exact ⟨p, 1, rfl, HPA.out, HPB.out, HRF.out, HBE.out⟩
    · have hz0 : (v == 0) = false := beq_eq_false_iff_ne.2 hv0
      by_cases hv2 : v = 12
      · have hz2 : (v == 12) = true := beq_iff_eq.2 hv2
        go_wp2_with fail
        go_ret2
        exact ⟨p, 2, rfl, HPA.out, HPB.out, HRF.out, HBE.out⟩
      · have hz2 : (v == 12) = false := beq_eq_false_iff_ne.2 hv2
        go_wp2_with fail
        go_ret2
        exact ⟨p, 0, rfl, HPA.out, HPB.out, HRF.out, HBE.out⟩
end Go.Proofs.YtgecfcdafbedaaaGreat
