/- The walk over slices.insertionSortOrdered at spots: they are put in order; Spots that may be a body: plain laws. -/
import Derived.Test.YtgecfcdafbedaaaGreatZRParamsBodies2
import Derived.Deep.RegionHeld3
import Derived.Deep.DrawnRows
import Derived.Deep.LoopGhost
import Derived.Deep.CutBlock
import Derived.Test.YtgecfcdafbedaaaGreatZRParamsBodies1
namespace Go.Proofs.YtgecfcdafbedaaaGreat
open Go.RowKit Go.Shelf
set_option linter.unusedSimpArgs false
set_option linter.unusedVariables false

/-- In order from a on, b not taken in. -/
def SortF (f : Nat → Int) (a b : Nat) : Prop := ∀ p q, a ≤ p → p < q → q < b → f p ≤ f q
/-- In order but for the one at j, which is no greater than those behind it. -/
def AlmostF (f : Nat → Int) (a b j : Nat) : Prop := (∀ p q, a ≤ p → p < q → q < b → p ≠ j → q ≠ j → f p ≤ f q) ∧ ∀ q, j < q → q < b → f j ≤ f q
theorem almost_start {f : Nat → Int} {a i : Nat} (h : SortF f a i) : AlmostF f a (i + 1) i :=
  ⟨fun p q h1 h2 h3 h4 h5 => h p q h1 h2 (by omega), fun q h1 h2 => by omega⟩
theorem almost_end {f : Nat → Int} {a b j : Nat} (h : AlmostF f a b j) (hj : j ≤ a ∨ ¬ f j < f (j - 1)) (ha : a ≤ j) : SortF f a b := fun p q h1 h2 h3 => by
  by_cases hq : q = j
  · subst hq
    rcases hj with hj | hj
    · omega
    · by_cases hp : p = q - 1
      · subst hp; omega
      · have := h.1 p (q - 1) h1 (by omega) (by omega) (by omega) (by omega)
        omega
  · by_cases hp : p = j
    · subst hp; exact h.2 q h2 h3
    · exact h.1 p q h1 h2 h3 hp hq
theorem almost_step {f : Nat → Int} {a b j : Nat} (h : AlmostF f a b j) (ha : a < j) (hb : j < b) (hlt : f j < f (j - 1)) : AlmostF (setF (setF f j (f (j - 1))) (j - 1) (f j)) a b (j - 1) := by
  have e1 : ∀ k, k ≠ j → k ≠ j - 1 → setF (setF f j (f (j - 1))) (j - 1) (f j) k = f k := fun k h1 h2 => by simp [setF, h1, h2]
  have e2 : setF (setF f j (f (j - 1))) (j - 1) (f j) j = f (j - 1) := by
    have : ¬ j = j - 1 := by omega
    simp [setF, this]
  have e3 : setF (setF f j (f (j - 1))) (j - 1) (f j) (j - 1) = f j := by simp [setF]
  refine ⟨fun p q h1 h2 h3 h4 h5 => ?_, fun q h1 h2 => ?_⟩
  · by_cases hp : p = j
    · subst hp
      rw [e2, e1 q (by omega) h5]
      exact h.1 (p - 1) q (by omega) (by omega) h3 (by omega) (by omega)
    · by_cases hq : q = j
      · subst hq
        rw [e2, e1 p hp h4]
        exact h.1 p (q - 1) h1 (by omega) (by omega) hp (by omega)
      · rw [e1 p hp h4, e1 q hq h5]
        exact h.1 p q h1 h2 h3 hp hq
  · by_cases hq : q = j
    · subst hq; rw [e2, e3]; omega
    · rw [e3, e1 q hq (by omega)]
      exact h.2 q (by omega) h2

set_option maxRecDepth 100000 in
set_option maxHeartbeats 4000000 in
theorem insF_any (g n cap a b : Nat) (f : Nat → Int) (w : World) (h : RowF w g n f) (hab : a ≤ b) (hbn : b ≤ n) (hn : n ≤ 1152921504606846976) :
    Calls Tryz.prog 88 #[.slice (some ⟨g, 0, none⟩) n cap, .int .i64 (a : Int), .int .i64 (b : Int)] w fun e w' => e = .returned (.tuple #[]) ∧ ∃ f', RowF w' g n f' ∧ Shuf n f f' ∧ SortF f' a b ∧ Keeps (· = g) w w' := by
  have H0 := Lib.hid h
  have a0 : (0 : Int) ≤ (a : Int) := by omega
  have hwa : IntKind.i64.wrap ((a : Int) + 1) = (a : Int) + 1 := IntWalk.i64_in _ (by omega)
  clear h
  go_enter Tryz.func88, Tryz.ntmps88
  go_wp2_with fail
  go_loopw [6, 7] (fun s r wr => ∃ (i : Nat) (f1 : Nat → Int), a + 1 ≤ i ∧ (i ≤ b ∨ i = a + 1) ∧ s = .int .i64 (i : Int) ∧ RowF wr g n f1 ∧ Shuf n f f1 ∧ SortF f1 a i ∧ Keeps (· = g) w wr) (fun s _ _ => b + 1 - (intOf s).toNat)
  case atStart => exact ⟨a + 1, f, Nat.le_refl _, .inr rfl, by go_num, H0.out, Shuf.refl _ _, fun p q h1 h2 h3 => by omega, Keeps.refl _ _⟩
  case round =>
    obtain ⟨i, f1, hi, hib, rfl, hR, hS, hO, hK⟩ := hrel
    have i0 : (0 : Int) ≤ (i : Int) := by omega
    by_cases hlt : i < b
    · have i1 : (i : Int) < (b : Int) := by omega
      have hwi : IntKind.i64.wrap ((i : Int) + 1) = (i : Int) + 1 := IntWalk.i64_in _ (by omega)
      have HR := Lib.hid hR
      have HS := Lib.hid hS
      have HO := Lib.hid hO
      have HK := Lib.hid hK
      clear hR hS hO hK hwa
      go_wp2_with fail
      go_loopg [7] i (fun gas r w2 => ∃ (j : Nat) (f2 : Nat → Int), j = gas ∧ a ≤ j ∧ j ≤ i ∧ r = .int .i64 (j : Int) ∧ RowF w2 g n f2 ∧ Shuf n f f2 ∧ AlmostF f2 a (i + 1) j ∧ Keeps (· = g) w w2)
      case atStart => exact ⟨i, f1, rfl, by omega, Nat.le_refl _, rfl, HR.out, HS.out, almost_start HO.out, HK.out⟩
      case round =>
        obtain ⟨j, f2, rfl, haj, hji, rfl, hR2, hS2, hA2, hK2⟩ := hrel
        have HR2 := Lib.hid hR2
        have HS2 := Lib.hid hS2
        have HA2 := Lib.hid hA2
        have HK2 := Lib.hid hK2
        have j0 : (0 : Int) ≤ (j : Int) := by omega
        clear hR2 hS2 hA2 hK2
        by_cases hja : a < j
        · have j1 : (a : Int) < (j : Int) := by omega
          have j2 : (j : Int) < (n : Int) := by omega
          obtain ⟨q, hq⟩ : ∃ q, j - 1 = q := ⟨_, rfl⟩
          have hwj : IntKind.i64.wrap ((j : Int) - 1) = (q : Int) := by rw [IntWalk.i64_in _ (by omega)]; omega
          have j3 : (0 : Int) ≤ (q : Int) := by omega
          have j4 : (q : Int) < (n : Int) := by omega
          have hqj : ¬ q = j := by omega
          have hjq : ¬ j = q := by omega
          have c1 := HR2.out.cell (j := j) (by omega)
          have c2 := HR2.out.cell (j := q) (by omega)
          obtain ⟨x, hx⟩ : ∃ x, f2 j = x := ⟨_, rfl⟩
          obtain ⟨y, hy⟩ : ∃ y, f2 q = y := ⟨_, rfl⟩
          rw [hx] at c1
          rw [hy] at c2
          have HX := Lib.hid hx
          have HY := Lib.hid hy
          have HQ := Lib.hid hq
          have hf1 := HR2.out.free j
          have hf2 := HR2.out.free q
          have hls := lessF_any x y
          clear hx hy hq
          by_cases hxy : x < y
          · rw [decide_eq_true hxy] at hls
            have HLS := Lib.hid hls
            clear hls
            go_wp2_with fail
            refine wp_region_noPanic ?_
            refine wp_region_held_drew (S := (fun w' => w'.cell? ⟨g, j, none⟩ = some (.int .u32 x) ∧ w'.cell? ⟨g, q, none⟩ = some (.int .u32 y))) (by kernel_rfl) ?_ (fun hHeld => ?_)
            · ((try dsimp only); refine ⟨?_, ?_⟩ <;> (first | assumption | (go_keep; done)))
            refine wpAnyH_take (i := 0) (oi := ⟨some 16, _, _, _, _, _⟩) (v := ?_) rfl (by kernel_rfl) (by kernel_rfl) (by kernel_rfl) (fun _ _ _ h => False.elim h) (Or.inl ⟨by rfl, ?_⟩) (by assumption) ?_
            rotate_left
            · intro w hSw
              (try dsimp only at hSw)
              go_simp
              all_goals with_reducible rfl
            (try simp only [Act.put, List.setIfInBounds_toArray, List.set_cons_zero, List.set_cons_succ])
            refine wpAnyH_take (i := 1) (oi := ⟨some 17, _, _, _, _, _⟩) (v := ?_) rfl (by kernel_rfl) (by kernel_rfl) (by kernel_rfl) (fun _ _ _ h => False.elim h) (Or.inl ⟨by rfl, ?_⟩) (by assumption) ?_
            rotate_left
            · intro w hSw
              (try dsimp only at hSw)
              go_simp
              all_goals with_reducible rfl
            (try simp only [Act.put, List.setIfInBounds_toArray, List.set_cons_zero, List.set_cons_succ])
            refine wpAnyH_take (i := 2) (oi := ⟨some 18, _, _, _, _, _⟩) (v := ?_) rfl (by kernel_rfl) (by kernel_rfl) (by kernel_rfl) (fun _ _ _ h => False.elim h) (Or.inl ⟨by rfl, ?_⟩) (by assumption) ?_
            rotate_left
            · intro w hSw
              (try dsimp only at hSw)
              go_simp
              all_goals with_reducible rfl
            (try simp only [Act.put, List.setIfInBounds_toArray, List.set_cons_zero, List.set_cons_succ])
            refine wpAnyH_take (i := 3) (oi := ⟨some 19, _, _, _, _, _⟩) (v := ?_) rfl (by kernel_rfl) (by kernel_rfl) (by kernel_rfl) (fun _ _ _ h => False.elim h) (Or.inl ⟨by rfl, ?_⟩) (by assumption) ?_
            rotate_left
            · intro w hSw
              (try dsimp only at hSw)
              go_simp
              all_goals with_reducible rfl
            (try simp only [Act.put, List.setIfInBounds_toArray, List.set_cons_zero, List.set_cons_succ])
            refine wpAnyH_take (i := 4) (oi := ⟨some 20, _, _, _, _, _⟩) (v := ?_) rfl (by kernel_rfl) (by kernel_rfl) (by kernel_rfl) (fun _ _ _ h => False.elim h) (Or.inl ⟨by rfl, ?_⟩) (by assumption) ?_
            rotate_left
            · intro w hSw
              (try dsimp only at hSw)
              go_simp
              all_goals with_reducible rfl
            (try simp only [Act.put, List.setIfInBounds_toArray, List.set_cons_zero, List.set_cons_succ])
            refine wpAnyH_take (i := 5) (oi := ⟨some 21, _, _, _, _, _⟩) (v := ?_) rfl (by kernel_rfl) (by kernel_rfl) (by kernel_rfl) (fun _ _ _ h => False.elim h) (Or.inl ⟨by rfl, ?_⟩) (by assumption) ?_
            rotate_left
            · intro w hSw
              (try dsimp only at hSw)
              go_simp
              all_goals with_reducible rfl
            (try simp only [Act.put, List.setIfInBounds_toArray, List.set_cons_zero, List.set_cons_succ])
            refine wpAnyH_take (i := 6) (oi := ⟨some 22, _, _, _, _, _⟩) (v := ?_) rfl (by kernel_rfl) (by kernel_rfl) (by kernel_rfl) (fun _ _ _ h => False.elim h) (Or.inl ⟨by rfl, ?_⟩) (by assumption) ?_
            rotate_left
            · intro w hSw
              (try dsimp only at hSw)
              go_simp
              all_goals with_reducible rfl
            (try simp only [Act.put, List.setIfInBounds_toArray, List.set_cons_zero, List.set_cons_succ])
            refine wpAnyH_take (i := 7) (oi := ⟨some 23, _, _, _, _, _⟩) (v := ?_) rfl (by kernel_rfl) (by kernel_rfl) (by kernel_rfl) (fun _ _ _ h => False.elim h) (Or.inl ⟨by rfl, ?_⟩) (by assumption) ?_
            rotate_left
            · intro w hSw
              (try dsimp only at hSw)
              go_simp
              all_goals with_reducible rfl
            (try simp only [Act.put, List.setIfInBounds_toArray, List.set_cons_zero, List.set_cons_succ])
            refine wpAnyH_take (i := 8) (oi := ⟨some 24, _, _, _, _, _⟩) (v := ?_) rfl (by kernel_rfl) (by kernel_rfl) (by kernel_rfl) (fun _ _ _ h => False.elim h) (Or.inl ⟨by rfl, ?_⟩) (by assumption) ?_
            rotate_left
            · intro w hSw
              (try dsimp only at hSw)
              go_simp
              all_goals with_reducible rfl
            (try simp only [Act.put, List.setIfInBounds_toArray, List.set_cons_zero, List.set_cons_succ])
            refine wpAnyH_take (i := 9) (oi := ⟨some 25, _, _, _, _, _⟩) (v := ?_) rfl (by kernel_rfl) (by kernel_rfl) (by kernel_rfl) (fun _ _ _ h => False.elim h) (Or.inl ⟨by rfl, ?_⟩) (by assumption) ?_
            rotate_left
            · intro w hSw
              (try dsimp only at hSw)
              go_simp
              all_goals with_reducible rfl
            (try simp only [Act.put, List.setIfInBounds_toArray, List.set_cons_zero, List.set_cons_succ])
            refine wpAnyH_take (i := 10) (oi := ⟨some 26, _, _, _, _, _⟩) (v := ?_) rfl (by kernel_rfl) (by kernel_rfl) (by kernel_rfl) (fun _ _ _ h => False.elim h) (Or.inl ⟨by rfl, ?_⟩) (by assumption) ?_
            rotate_left
            · intro w hSw
              (try dsimp only at hSw)
              go_simp
              all_goals with_reducible rfl
            (try simp only [Act.put, List.setIfInBounds_toArray, List.set_cons_zero, List.set_cons_succ])
            refine wpAnyH_take (i := 11) (oi := ⟨some 27, _, _, _, _, _⟩) (v := ?_) rfl (by kernel_rfl) (by kernel_rfl) (by kernel_rfl) (fun _ _ _ h => False.elim h) (Or.inl ⟨by rfl, ?_⟩) (by assumption) ?_
            rotate_left
            · intro w hSw
              (try dsimp only at hSw)
              go_simp
              all_goals with_reducible rfl
            (try simp only [Act.put, List.setIfInBounds_toArray, List.set_cons_zero, List.set_cons_succ])
            refine wpAnyH_take (i := 12) (oi := ⟨some 28, _, _, _, _, _⟩) (v := ?_) rfl (by kernel_rfl) (by kernel_rfl) (by kernel_rfl) (fun _ _ _ h => False.elim h) (Or.inl ⟨by rfl, ?_⟩) (by assumption) ?_
            rotate_left
            · intro w hSw
              (try dsimp only at hSw)
              go_simp
              all_goals with_reducible rfl
            (try simp only [Act.put, List.setIfInBounds_toArray, List.set_cons_zero, List.set_cons_succ])
            refine wpAnyH_ready (rs := [13]) (by kernel_rfl) (by simp) ?_
            refine AllReadyH.cons (o := ⟨some 29, _, _, _, _, _⟩) rfl (fun K hK => ?_) AllReadyH.nil
            go_simp
            (refine (HLS.out _).mono ?_; rintro e wc ⟨rfl, rfl⟩)
            (try go_wp2_with fail)
            refine hK.out _ _ ?_ (fun hHeld => ?_)
            · ((try dsimp only); refine ⟨?_, ?_⟩ <;> (first | assumption | (go_keep; done)))
            clear hK K
            (try simp only [Act.put, List.setIfInBounds_toArray, List.set_cons_zero, List.set_cons_succ])
            refine wpAnyH_take (i := 14) (oi := ⟨some 30, _, _, _, _, _⟩) (v := ?_) rfl (by kernel_rfl) (by kernel_rfl) (by kernel_rfl) (fun _ _ _ h => False.elim h) (Or.inl ⟨by rfl, ?_⟩) (by assumption) ?_
            rotate_left
            · intro w hSw
              (try dsimp only at hSw)
              go_simp
              all_goals with_reducible rfl
            (try simp only [Act.put, List.setIfInBounds_toArray, List.set_cons_zero, List.set_cons_succ])
            refine wpAnyH_done (by kernel_rfl) ?_ _
            refine NoPanic.normal ?_
            go_wp2_with fail
            go_region_with (fail)
            all_goals
              have hst := almost_step HA2.out hja (by omega) (by rw [HQ.out, HX.out, HY.out]; exact hxy)
              have hsw := swapped HR2.out j q (by omega) (by have := HQ.out; omega)
              rw [HQ.out, HX.out, HY.out] at hst
              rw [HX.out, HY.out] at hsw
              obtain ⟨s1, s2, s3⟩ := hsw
              have S1 := Lib.hid s1
              have S2 := Lib.hid (HS2.out.trans s2)
              have S3 := Lib.hid (HK2.out.trans s3)
              have ST := Lib.hid hst
              have haq : a ≤ q := by have := HQ.out; omega
              have hqi : q ≤ i := by have := HQ.out; omega
              have hqj2 : q < j := by have := HQ.out; omega
              clear s1 s2 s3 hst c1 c2
              go_wp2_with fail
              go_roundg q
              case rel => exact ⟨q, _, rfl, haq, hqi, rfl, S1.out, S2.out, ST.out, (S3.out.drew).drew⟩
              all_goals omega
          · rw [decide_eq_false hxy] at hls
            have HLS := Lib.hid hls
            have hend := almost_end HA2.out (.inr (by rw [HQ.out, HX.out, HY.out]; exact hxy)) haj
            have HE := Lib.hid hend
            clear hls hend
            go_wp2_with fail
            refine wp_region_noPanic ?_
            refine wp_region_held_drew (S := (fun w' => w'.cell? ⟨g, j, none⟩ = some (.int .u32 x) ∧ w'.cell? ⟨g, q, none⟩ = some (.int .u32 y))) (by kernel_rfl) ?_ (fun hHeld => ?_)
            · ((try dsimp only); refine ⟨?_, ?_⟩ <;> (first | assumption | (go_keep; done)))
            refine wpAnyH_take (i := 0) (oi := ⟨some 16, _, _, _, _, _⟩) (v := ?_) rfl (by kernel_rfl) (by kernel_rfl) (by kernel_rfl) (fun _ _ _ h => False.elim h) (Or.inl ⟨by rfl, ?_⟩) (by assumption) ?_
            rotate_left
            · intro w hSw
              (try dsimp only at hSw)
              go_simp
              all_goals with_reducible rfl
            (try simp only [Act.put, List.setIfInBounds_toArray, List.set_cons_zero, List.set_cons_succ])
            refine wpAnyH_take (i := 1) (oi := ⟨some 17, _, _, _, _, _⟩) (v := ?_) rfl (by kernel_rfl) (by kernel_rfl) (by kernel_rfl) (fun _ _ _ h => False.elim h) (Or.inl ⟨by rfl, ?_⟩) (by assumption) ?_
            rotate_left
            · intro w hSw
              (try dsimp only at hSw)
              go_simp
              all_goals with_reducible rfl
            (try simp only [Act.put, List.setIfInBounds_toArray, List.set_cons_zero, List.set_cons_succ])
            refine wpAnyH_take (i := 2) (oi := ⟨some 18, _, _, _, _, _⟩) (v := ?_) rfl (by kernel_rfl) (by kernel_rfl) (by kernel_rfl) (fun _ _ _ h => False.elim h) (Or.inl ⟨by rfl, ?_⟩) (by assumption) ?_
            rotate_left
            · intro w hSw
              (try dsimp only at hSw)
              go_simp
              all_goals with_reducible rfl
            (try simp only [Act.put, List.setIfInBounds_toArray, List.set_cons_zero, List.set_cons_succ])
            refine wpAnyH_take (i := 3) (oi := ⟨some 19, _, _, _, _, _⟩) (v := ?_) rfl (by kernel_rfl) (by kernel_rfl) (by kernel_rfl) (fun _ _ _ h => False.elim h) (Or.inl ⟨by rfl, ?_⟩) (by assumption) ?_
            rotate_left
            · intro w hSw
              (try dsimp only at hSw)
              go_simp
              all_goals with_reducible rfl
            (try simp only [Act.put, List.setIfInBounds_toArray, List.set_cons_zero, List.set_cons_succ])
            refine wpAnyH_take (i := 4) (oi := ⟨some 20, _, _, _, _, _⟩) (v := ?_) rfl (by kernel_rfl) (by kernel_rfl) (by kernel_rfl) (fun _ _ _ h => False.elim h) (Or.inl ⟨by rfl, ?_⟩) (by assumption) ?_
            rotate_left
            · intro w hSw
              (try dsimp only at hSw)
              go_simp
              all_goals with_reducible rfl
            (try simp only [Act.put, List.setIfInBounds_toArray, List.set_cons_zero, List.set_cons_succ])
            refine wpAnyH_take (i := 5) (oi := ⟨some 21, _, _, _, _, _⟩) (v := ?_) rfl (by kernel_rfl) (by kernel_rfl) (by kernel_rfl) (fun _ _ _ h => False.elim h) (Or.inl ⟨by rfl, ?_⟩) (by assumption) ?_
            rotate_left
            · intro w hSw
              (try dsimp only at hSw)
              go_simp
              all_goals with_reducible rfl
            (try simp only [Act.put, List.setIfInBounds_toArray, List.set_cons_zero, List.set_cons_succ])
            refine wpAnyH_take (i := 6) (oi := ⟨some 22, _, _, _, _, _⟩) (v := ?_) rfl (by kernel_rfl) (by kernel_rfl) (by kernel_rfl) (fun _ _ _ h => False.elim h) (Or.inl ⟨by rfl, ?_⟩) (by assumption) ?_
            rotate_left
            · intro w hSw
              (try dsimp only at hSw)
              go_simp
              all_goals with_reducible rfl
            (try simp only [Act.put, List.setIfInBounds_toArray, List.set_cons_zero, List.set_cons_succ])
            refine wpAnyH_take (i := 7) (oi := ⟨some 23, _, _, _, _, _⟩) (v := ?_) rfl (by kernel_rfl) (by kernel_rfl) (by kernel_rfl) (fun _ _ _ h => False.elim h) (Or.inl ⟨by rfl, ?_⟩) (by assumption) ?_
            rotate_left
            · intro w hSw
              (try dsimp only at hSw)
              go_simp
              all_goals with_reducible rfl
            (try simp only [Act.put, List.setIfInBounds_toArray, List.set_cons_zero, List.set_cons_succ])
            refine wpAnyH_take (i := 8) (oi := ⟨some 24, _, _, _, _, _⟩) (v := ?_) rfl (by kernel_rfl) (by kernel_rfl) (by kernel_rfl) (fun _ _ _ h => False.elim h) (Or.inl ⟨by rfl, ?_⟩) (by assumption) ?_
            rotate_left
            · intro w hSw
              (try dsimp only at hSw)
              go_simp
              all_goals with_reducible rfl
            (try simp only [Act.put, List.setIfInBounds_toArray, List.set_cons_zero, List.set_cons_succ])
            refine wpAnyH_take (i := 9) (oi := ⟨some 25, _, _, _, _, _⟩) (v := ?_) rfl (by kernel_rfl) (by kernel_rfl) (by kernel_rfl) (fun _ _ _ h => False.elim h) (Or.inl ⟨by rfl, ?_⟩) (by assumption) ?_
            rotate_left
            · intro w hSw
              (try dsimp only at hSw)
              go_simp
              all_goals with_reducible rfl
            (try simp only [Act.put, List.setIfInBounds_toArray, List.set_cons_zero, List.set_cons_succ])
            refine wpAnyH_take (i := 10) (oi := ⟨some 26, _, _, _, _, _⟩) (v := ?_) rfl (by kernel_rfl) (by kernel_rfl) (by kernel_rfl) (fun _ _ _ h => False.elim h) (Or.inl ⟨by rfl, ?_⟩) (by assumption) ?_
            rotate_left
            · intro w hSw
              (try dsimp only at hSw)
              go_simp
              all_goals with_reducible rfl
            (try simp only [Act.put, List.setIfInBounds_toArray, List.set_cons_zero, List.set_cons_succ])
            refine wpAnyH_take (i := 11) (oi := ⟨some 27, _, _, _, _, _⟩) (v := ?_) rfl (by kernel_rfl) (by kernel_rfl) (by kernel_rfl) (fun _ _ _ h => False.elim h) (Or.inl ⟨by rfl, ?_⟩) (by assumption) ?_
            rotate_left
            · intro w hSw
              (try dsimp only at hSw)
              go_simp
              all_goals with_reducible rfl
            (try simp only [Act.put, List.setIfInBounds_toArray, List.set_cons_zero, List.set_cons_succ])
            refine wpAnyH_take (i := 12) (oi := ⟨some 28, _, _, _, _, _⟩) (v := ?_) rfl (by kernel_rfl) (by kernel_rfl) (by kernel_rfl) (fun _ _ _ h => False.elim h) (Or.inl ⟨by rfl, ?_⟩) (by assumption) ?_
            rotate_left
            · intro w hSw
              (try dsimp only at hSw)
              go_simp
              all_goals with_reducible rfl
            (try simp only [Act.put, List.setIfInBounds_toArray, List.set_cons_zero, List.set_cons_succ])
            refine wpAnyH_ready (rs := [13]) (by kernel_rfl) (by simp) ?_
            refine AllReadyH.cons (o := ⟨some 29, _, _, _, _, _⟩) rfl (fun K hK => ?_) AllReadyH.nil
            go_simp
            (refine (HLS.out _).mono ?_; rintro e wc ⟨rfl, rfl⟩)
            (try go_wp2_with fail)
            refine hK.out _ _ ?_ (fun hHeld => ?_)
            · ((try dsimp only); refine ⟨?_, ?_⟩ <;> (first | assumption | (go_keep; done)))
            clear hK K
            (try simp only [Act.put, List.setIfInBounds_toArray, List.set_cons_zero, List.set_cons_succ])
            refine wpAnyH_take (i := 14) (oi := ⟨some 30, _, _, _, _, _⟩) (v := ?_) rfl (by kernel_rfl) (by kernel_rfl) (by kernel_rfl) (fun _ _ _ h => False.elim h) (Or.inl ⟨by rfl, ?_⟩) (by assumption) ?_
            rotate_left
            · intro w hSw
              (try dsimp only at hSw)
              go_simp
              all_goals with_reducible rfl
            (try simp only [Act.put, List.setIfInBounds_toArray, List.set_cons_zero, List.set_cons_succ])
            refine wpAnyH_done (by kernel_rfl) ?_ _
            refine NoPanic.normal ?_
            go_wp2_with fail
            go_roundw
            case rel => exact ⟨i + 1, f2, by omega, by omega, by go_num, HR2.out, HS2.out, HE.out, HK2.out.drew⟩
            case measure => simp [intOf]; omega
        · have j1 : ¬ (a : Int) < (j : Int) := by omega
          have hend := almost_end HA2.out (.inl (by omega)) haj
          have HE := Lib.hid hend
          clear hend
          go_wp2_with fail
          refine wp_region_noPanic ?_
          refine wp_region_held_drew (S := (fun w' => True)) (by kernel_rfl) ?_ (fun hHeld => ?_)
          · ((try dsimp only) <;> (first | assumption | (go_keep; done)))
          refine wpAnyH_take (i := 0) (oi := ⟨some 16, _, _, _, _, _⟩) (v := ?_) rfl (by kernel_rfl) (by kernel_rfl) (by kernel_rfl) (fun _ _ _ h => False.elim h) (Or.inl ⟨by rfl, ?_⟩) (by assumption) ?_
          rotate_left
          · intro w hSw
            (try dsimp only at hSw)
            go_simp
            all_goals with_reducible rfl
          (try simp only [Act.put, List.setIfInBounds_toArray, List.set_cons_zero, List.set_cons_succ])
          refine wpAnyH_take (i := 1) (oi := ⟨some 17, _, _, _, _, _⟩) (v := ?_) rfl (by kernel_rfl) (by kernel_rfl) (by kernel_rfl) (fun _ _ _ h => False.elim h) (Or.inl ⟨by rfl, ?_⟩) (by assumption) ?_
          rotate_left
          · intro w hSw
            (try dsimp only at hSw)
            go_simp
            all_goals with_reducible rfl
          (try simp only [Act.put, List.setIfInBounds_toArray, List.set_cons_zero, List.set_cons_succ])
          refine wpAnyH_take (i := 2) (oi := ⟨some 18, _, _, _, _, _⟩) (v := ?_) rfl (by kernel_rfl) (by kernel_rfl) (by kernel_rfl) (fun _ _ _ h => False.elim h) (Or.inl ⟨by rfl, ?_⟩) (by assumption) ?_
          rotate_left
          · intro w hSw
            (try dsimp only at hSw)
            go_simp
            all_goals with_reducible rfl
          (try simp only [Act.put, List.setIfInBounds_toArray, List.set_cons_zero, List.set_cons_succ])
          refine wpAnyH_take (i := 3) (oi := ⟨some 19, _, _, _, _, _⟩) (v := ?_) rfl (by kernel_rfl) (by kernel_rfl) (by kernel_rfl) (fun _ _ _ h => False.elim h) (Or.inl ⟨by rfl, ?_⟩) (by assumption) ?_
          rotate_left
          · intro w hSw
            (try dsimp only at hSw)
            go_simp
            all_goals with_reducible rfl
          (try simp only [Act.put, List.setIfInBounds_toArray, List.set_cons_zero, List.set_cons_succ])
          refine wpAnyH_take (i := 4) (oi := ⟨some 20, _, _, _, _, _⟩) (v := undef) rfl (by kernel_rfl) (by kernel_rfl) (by kernel_rfl) (fun _ _ _ h => False.elim h) (Or.inr ⟨by rfl, rfl⟩) (by assumption) ?_
          (try simp only [Act.put, List.setIfInBounds_toArray, List.set_cons_zero, List.set_cons_succ])
          refine wpAnyH_take (i := 5) (oi := ⟨some 21, _, _, _, _, _⟩) (v := undef) rfl (by kernel_rfl) (by kernel_rfl) (by kernel_rfl) (fun _ _ _ h => False.elim h) (Or.inr ⟨by rfl, rfl⟩) (by assumption) ?_
          (try simp only [Act.put, List.setIfInBounds_toArray, List.set_cons_zero, List.set_cons_succ])
          refine wpAnyH_take (i := 6) (oi := ⟨some 22, _, _, _, _, _⟩) (v := undef) rfl (by kernel_rfl) (by kernel_rfl) (by kernel_rfl) (fun _ _ _ h => False.elim h) (Or.inr ⟨by rfl, rfl⟩) (by assumption) ?_
          (try simp only [Act.put, List.setIfInBounds_toArray, List.set_cons_zero, List.set_cons_succ])
          refine wpAnyH_take (i := 7) (oi := ⟨some 23, _, _, _, _, _⟩) (v := undef) rfl (by kernel_rfl) (by kernel_rfl) (by kernel_rfl) (fun _ _ _ h => False.elim h) (Or.inr ⟨by rfl, rfl⟩) (by assumption) ?_
          (try simp only [Act.put, List.setIfInBounds_toArray, List.set_cons_zero, List.set_cons_succ])
          refine wpAnyH_take (i := 8) (oi := ⟨some 24, _, _, _, _, _⟩) (v := undef) rfl (by kernel_rfl) (by kernel_rfl) (by kernel_rfl) (fun _ _ _ h => False.elim h) (Or.inr ⟨by rfl, rfl⟩) (by assumption) ?_
          (try simp only [Act.put, List.setIfInBounds_toArray, List.set_cons_zero, List.set_cons_succ])
          refine wpAnyH_take (i := 9) (oi := ⟨some 25, _, _, _, _, _⟩) (v := undef) rfl (by kernel_rfl) (by kernel_rfl) (by kernel_rfl) (fun _ _ _ h => False.elim h) (Or.inr ⟨by rfl, rfl⟩) (by assumption) ?_
          (try simp only [Act.put, List.setIfInBounds_toArray, List.set_cons_zero, List.set_cons_succ])
          refine wpAnyH_take (i := 10) (oi := ⟨some 26, _, _, _, _, _⟩) (v := undef) rfl (by kernel_rfl) (by kernel_rfl) (by kernel_rfl) (fun _ _ _ h => False.elim h) (Or.inr ⟨by rfl, rfl⟩) (by assumption) ?_
          (try simp only [Act.put, List.setIfInBounds_toArray, List.set_cons_zero, List.set_cons_succ])
          refine wpAnyH_take (i := 11) (oi := ⟨some 27, _, _, _, _, _⟩) (v := undef) rfl (by kernel_rfl) (by kernel_rfl) (by kernel_rfl) (fun _ _ _ h => False.elim h) (Or.inr ⟨by rfl, rfl⟩) (by assumption) ?_
          (try simp only [Act.put, List.setIfInBounds_toArray, List.set_cons_zero, List.set_cons_succ])
          refine wpAnyH_take (i := 12) (oi := ⟨some 28, _, _, _, _, _⟩) (v := undef) rfl (by kernel_rfl) (by kernel_rfl) (by kernel_rfl) (fun _ _ _ h => False.elim h) (Or.inr ⟨by rfl, rfl⟩) (by assumption) ?_
          (try simp only [Act.put, List.setIfInBounds_toArray, List.set_cons_zero, List.set_cons_succ])
          refine wpAnyH_take (i := 13) (oi := ⟨some 29, _, _, _, _, _⟩) (v := undef) rfl (by kernel_rfl) (by kernel_rfl) (by kernel_rfl) (fun _ _ _ h => False.elim h) (Or.inr ⟨by rfl, rfl⟩) (by assumption) ?_
          (try simp only [Act.put, List.setIfInBounds_toArray, List.set_cons_zero, List.set_cons_succ])
          refine wpAnyH_take (i := 14) (oi := ⟨some 30, _, _, _, _, _⟩) (v := ?_) rfl (by kernel_rfl) (by kernel_rfl) (by kernel_rfl) (fun _ _ _ h => False.elim h) (Or.inl ⟨by rfl, ?_⟩) (by assumption) ?_
          rotate_left
          · intro w hSw
            (try dsimp only at hSw)
            go_simp
            all_goals with_reducible rfl
          (try simp only [Act.put, List.setIfInBounds_toArray, List.set_cons_zero, List.set_cons_succ])
          refine wpAnyH_done (by kernel_rfl) ?_ _
          refine NoPanic.normal ?_
          go_wp2_with fail
          go_roundw
          case rel => exact ⟨i + 1, f2, by omega, by omega, by go_num, HR2.out, HS2.out, HE.out, HK2.out.drew⟩
          case measure => simp [intOf]; omega
    · have i1 : ¬ (i : Int) < (b : Int) := by omega
      have HR := Lib.hid hR
      have HS := Lib.hid hS
      have HO : Hid (SortF f1 a b) := Lib.hid (fun p q h1 h2 h3 => hO p q h1 h2 (by omega))
      have HK := Lib.hid hK
      clear hR hS hO hK hwa
      go_wp2_with fail
      go_end0
      exact ⟨rfl, f1, HR.out, HS.out, HO.out, HK.out⟩
end Go.Proofs.YtgecfcdafbedaaaGreat

namespace Go.Proofs.YtgecfcdafbedaaaGreat
set_option linter.unusedSimpArgs false
set_option linter.unusedVariables false

/-- The spots may be a body's: one to four, none 0, each once. -/
def SpOk (n : Nat) (f : Nat → Int) : Prop := 1 ≤ n ∧ n ≤ 4 ∧ (∀ j, j < n → f j ≠ 0) ∧ ∀ i j, i < j → j < n → f i ≠ f j
theorem shuf_all {n : Nat} {f f' : Nat → Int} (h : Shuf n f f') {P : Int → Prop} (hp : ∀ j, j < n → P (f j)) : ∀ j, j < n → P (f' j) := by
  obtain ⟨s, a1, a2, a3, a4⟩ := h
  exact fun j hj => by rw [a4 j hj]; exact hp _ (a1 j hj)
theorem spok_zero {n : Nat} {f f' : Nat → Int} (h : Shuf n f f') (hs : SortF f' 0 n) (h1 : 1 ≤ n) (hp : ∀ j, j < n → 0 ≤ f j) : f' 0 = 0 ↔ ∃ j, j < n ∧ f j = 0 := by
  have hp' := shuf_all h (P := fun x => 0 ≤ x) hp
  obtain ⟨s, a1, a2, a3, a4⟩ := h
  constructor
  · intro h0
    exact ⟨s 0, a1 0 (by omega), by rw [← a4 0 (by omega)]; exact h0⟩
  · rintro ⟨j, hj, h0⟩
    obtain ⟨k, hk, e⟩ := a3 j hj
    have h2 : f' k = 0 := by rw [a4 k hk, e]; exact h0
    have h3 := hp' 0 (by omega)
    rcases Nat.eq_zero_or_pos k with h4 | h4
    · subst h4; exact h2
    · have := hs 0 k (Nat.le_refl _) h4 hk
      omega
theorem spok_like {n : Nat} {f f' : Nat → Int} (h : Shuf n f f') (hl : ∃ j, 1 ≤ j ∧ j < n ∧ f' j = f' (j - 1)) : ¬ ∀ i j, i < j → j < n → f i ≠ f j := by
  obtain ⟨s, a1, a2, a3, a4⟩ := h
  obtain ⟨j, h1, h2, h3⟩ := hl
  intro hn
  have e1 := a4 j h2
  have e2 := a4 (j - 1) (by omega)
  have hne : s j ≠ s (j - 1) := fun e => by have := a2 j (j - 1) h2 (by omega) e; omega
  rcases Nat.lt_or_gt_of_ne hne with h | h
  · exact hn _ _ h (a1 _ (by omega)) (by rw [← e1, ← e2]; exact h3)
  · exact hn _ _ h (a1 _ h2) (by rw [← e1, ← e2]; exact h3.symm)
theorem spok_un {n : Nat} {f f' : Nat → Int} (h : Shuf n f f') (hs : SortF f' 0 n) (hu : ∀ j, 1 ≤ j → j < n → f' j ≠ f' (j - 1)) : ∀ i j, i < j → j < n → f i ≠ f j := by
  have hlt : ∀ k l, k < l → l < n → f' k < f' l := by
    intro k l h1 h2
    have e1 := hu l (by omega) h2
    have e2 : f' (l - 1) ≤ f' l := hs (l - 1) l (Nat.zero_le _) (by omega) h2
    rcases Nat.lt_or_ge k (l - 1) with h3 | h3
    · have := hs k (l - 1) (Nat.zero_le _) h3 (by omega)
      omega
    · obtain rfl : k = l - 1 := by omega
      omega
  obtain ⟨s, a1, a2, a3, a4⟩ := h
  intro i j hij hj he
  obtain ⟨k, hk, e1⟩ := a3 i (by omega)
  obtain ⟨l, hl, e2⟩ := a3 j hj
  have e3 : f' k = f' l := by rw [a4 k hk, a4 l hl, e1, e2]; exact he
  have hne : k ≠ l := fun e => by subst e; omega
  rcases Nat.lt_or_gt_of_ne hne with h | h
  · have := hlt k l h hl; omega
  · have := hlt l k h hk; omega
/-- The bytes of spots, of which k are put. -/
def spPre (n : Nat) (f : Nat → Int) : Nat → List Int
  | 0 => [(n : Int)]
  | k + 1 => spPre n f k ++ be (f k) 4
theorem spPre_length (n : Nat) (f : Nat → Int) : ∀ k, (spPre n f k).length = 1 + 4 * k
  | 0 => rfl
  | k + 1 => by rw [spPre, List.length_append, spPre_length n f k, be_length]; omega
end Go.Proofs.YtgecfcdafbedaaaGreat
