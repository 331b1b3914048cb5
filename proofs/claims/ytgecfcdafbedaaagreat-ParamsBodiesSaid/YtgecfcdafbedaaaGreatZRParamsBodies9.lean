/- The walk over slices.pdqsortOrdered at spots: they are moved about; twelve at most are sorted. -/
import Derived.Test.YtgecfcdafbedaaaGreatZRParamsBodies5
import Derived.Test.YtgecfcdafbedaaaGreatZRParamsBodies6
import Derived.Test.YtgecfcdafbedaaaGreatZRParamsBodies7
import Derived.Test.YtgecfcdafbedaaaGreatZRParamsBodies8
namespace Go.Proofs.YtgecfcdafbedaaaGreat
open Go.RowKit Go.Shelf
set_option linter.unusedSimpArgs false
set_option linter.unusedVariables false

/-- What a sort leaves. -/
def Sorted12 (w : World) (g n : Nat) (f : Nat → Int) (a b : Nat) (w' : World) : Prop := ∃ f', RowF w' g n f' ∧ Shuf n f f' ∧ Keeps (· = g) w w' ∧ (b - a ≤ 12 → SortF f' a b)
set_option maxRecDepth 100000 in
set_option maxHeartbeats 16000000 in
theorem pdq_any (g n cap : Nat) (hn : n < 140737488355328) : ∀ (m A B : Nat) (L : Int) (f : Nat → Int) (w : World), B - A ≤ m → RowF w g n f → A ≤ B → B ≤ n →
    Calls Tryz.prog 85 #[.slice (some ⟨g, 0, none⟩) n cap, .int .i64 (A : Int), .int .i64 (B : Int), .int .i64 L] w fun e w' => e = .returned (.tuple #[]) ∧ Sorted12 w g n f A B w' := by
  intro m
  induction m using Nat.strongRecOn with
  | ind m ih =>
  intro A B L f w hm h hAB hBn
  have hih : ∀ (A' B' : Nat) (L' : Int) (f' : Nat → Int) (w1 : World), B' - A' < B - A → RowF w1 g n f' → A' ≤ B' → B' ≤ n → Calls Tryz.prog 85 #[.slice (some ⟨g, 0, none⟩) n cap, .int .i64 (A' : Int), .int .i64 (B' : Int), .int .i64 L'] w1 fun e w' => e = .returned (.tuple #[]) ∧ Sorted12 w1 g n f' A' B' w' := fun A' B' L' f' w1 hlt => ih (B' - A') (by omega) A' B' L' f' w1 (Nat.le_refl _)
  have HIH := Lib.hid hih
  have H0 := Lib.hid h
  have HB0 := Lib.hid (And.intro hAB hBn)
  clear ih hih h hm hAB hBn
  go_enter Tryz.func85, Tryz.ntmps85
  go_wp2_with fail
  go_loopg [1, 2, 3, 8, 9, 10, 11, 12, 13, 14, 15, 16, 17, 18] (B - A) (fun gas s1 s2 s3 s8 s9 s10 s11 s12 s13 s14 s15 s16 s17 s18 wr => ∃ (a b : Nat) (lim : Int) (wb wp : Bool) (f2 : Nat → Int), b - a = gas ∧ b - a ≤ B - A ∧ a ≤ b ∧ b ≤ n ∧ (B - A ≤ 12 → a = A ∧ b = B) ∧ s1 = .int .i64 (a : Int) ∧ s2 = .int .i64 (b : Int) ∧ s3 = .int .i64 lim ∧ s8 = .bool wb ∧ s9 = .bool wp ∧ RowF wr g n f2 ∧ Shuf n f f2 ∧ Keeps (· = g) w wr)
  case atStart => exact ⟨A, B, L, true, true, f, rfl, Nat.le_refl _, HB0.out.1, HB0.out.2, fun _ => ⟨rfl, rfl⟩, rfl, rfl, rfl, rfl, rfl, H0.out, Shuf.refl _ _, Keeps.refl _ _⟩
  case round =>
    obtain ⟨a, b, lim, wb, wp, f2, rfl, hle, hab, hbn, hsm, rfl, rfl, rfl, rfl, rfl, hR, hS, hK⟩ := hrel
    have HR := Lib.hid hR
    have HS := Lib.hid hS
    have HK := Lib.hid hK
    have HSM := Lib.hid hsm
    have HLE := Lib.hid hle
    obtain ⟨l, hl⟩ : ∃ l, b - a = l := ⟨_, rfl⟩
    have hwl : IntKind.i64.wrap ((b : Int) - (a : Int)) = (l : Int) := by rw [IntWalk.i64_in _ (by omega)]; omega
    have HL := Lib.hid (show b - a = l from hl)
    have HAB := Lib.hid (show a ≤ b ∧ b ≤ n from ⟨hab, hbn⟩)
    clear hR hS hK hsm hle hl H0 HB0
    by_cases h12 : (l : Int) ≤ 12
    · have HINS := Lib.hid (insF_any g n cap a b f2 wr HR.out hab hbn (by omega))
      clear hab hbn
      go_wp2_with fail
      refine HINS.out.mono ?_; rintro e w1 ⟨rfl, f3, r1, r2, r3, r4⟩
      have HF : Hid (Sorted12 w g n f A B w1) := Lib.hid ⟨f3, r1, HS.out.trans r2, HK.out.trans r4, fun h => by obtain ⟨e1, e2⟩ := HSM.out h; rw [← e1, ← e2]; exact r3⟩
      clear r1 r2 r3 r4
      go_wp2_with fail
      refine bodyPost_ret (results_none rfl _ _ _) rfl ?_
      exact ⟨rfl, HF.out⟩
    · have hl12 : ((l : Int) ≤ 12) = False := eq_false h12
      have HN : Hid (¬ B - A ≤ 12) := Lib.hid (fun h => by have := HLE.out; have := HL.out; omega)
      have HG : Hid (a + 12 < b) := Lib.hid (by have := HL.out; omega)
      clear h12 HSM
      by_cases h0 : lim = 0
      · have hz : (lim == 0) = true := beq_iff_eq.2 h0
        have HHP := Lib.hid (heap_any g n cap a b f2 wr HR.out (by have := HG.out; omega) hbn (by omega))
        clear hab hbn h0
        go_wp2_with fail
        refine HHP.out.mono ?_; rintro e w1 ⟨rfl, f3, r1, r2, r3⟩
        have HF : Hid (Sorted12 w g n f A B w1) := Lib.hid ⟨f3, r1, HS.out.trans r2, HK.out.trans r3, fun h => absurd h HN.out⟩
        clear r1 r2 r3
        go_wp2_with fail
        refine bodyPost_ret (results_none rfl _ _ _) rfl ?_
        exact ⟨rfl, HF.out⟩
      · have hz : (lim == 0) = false := beq_eq_false_iff_ne.2 h0
        have HBR := Lib.hid (breakF_any g n cap a b f2 wr HR.out hab hbn hn)
        clear hab hbn h0
        go_upto_if 35 with fail
        go_cut [3] (fun s3 wx => ∃ (lim2 : Int) (f3 : Nat → Int), s3 = .int .i64 lim2 ∧ RowF wx g n f3 ∧ Shuf n f f3 ∧ Keeps (· = g) w wx)
        case first =>
          cases wb with
          | true =>
            go_wp2_with fail
            go_meet
            exact ⟨lim, f2, rfl, HR.out, HS.out, HK.out⟩
          | false =>
            go_wp2_with fail
            refine HBR.out.mono ?_; rintro e w1 ⟨rfl, f3, r1, r2, r3⟩
            have R1 := Lib.hid r1
            have R2 := Lib.hid (HS.out.trans r2)
            have R3 := Lib.hid (HK.out.trans r3)
            clear r1 r2 r3
            go_wp2_with fail
            go_meet
            exact ⟨_, f3, rfl, R1.out, R2.out, R3.out⟩
        case rest =>
          obtain ⟨lim2, f3, rfl, hR, hS, hK⟩ := hcut
          clear HR HS HK HBR hz
          have HR := Lib.hid hR
          have HS := Lib.hid hS
          have HK := Lib.hid hK
          have HCH := Lib.hid (choose_any g n cap a b f3 wc hR HG.out HAB.out.2 (by omega))
          clear hR hS hK
          go_wp2_with fail
          refine HCH.out.mono ?_; rintro e w1 ⟨p, hint, rfl, hp1, hp2, hR, hB⟩
          have HR1 := Lib.hid hR
          have HK1 := Lib.hid (HK.out.below hB)
          have HP := Lib.hid (And.intro hp1 hp2)
          clear hR hB hp1 hp2 HCH HR HK
          go_upto_if 50 with fail
          go_cut [11, 12] (fun s11 s12 wx => ∃ (p : Nat) (hint : Int) (f4 : Nat → Int), s11 = .int .i64 (p : Int) ∧ s12 = .int .i64 hint ∧ a ≤ p ∧ p < b ∧ RowF wx g n f4 ∧ Shuf n f f4 ∧ Keeps (· = g) w wx)
          case first =>
            by_cases hh : hint = 2
            · have hh2 : (hint == 2) = true := beq_iff_eq.2 hh
              have HRV := Lib.hid (revr_any g n cap a b f3 w1 HR1.out HAB.out.1 HAB.out.2 (by omega))
              obtain ⟨pa, hpa⟩ : ∃ pa : Nat, p - a = pa := ⟨_, rfl⟩
              have hw1 : IntKind.i64.wrap ((p : Int) - (a : Int)) = (pa : Int) := by have := HP.out; have := HAB.out; rw [IntWalk.i64_in _ (by omega)]; omega
              obtain ⟨bb, hbb⟩ : ∃ bb : Nat, b - 1 = bb := ⟨_, rfl⟩
              have hw2 : IntKind.i64.wrap ((b : Int) - 1) = (bb : Int) := by have := HP.out; have := HAB.out; rw [IntWalk.i64_in _ (by omega)]; omega
              obtain ⟨p2, hp2⟩ : ∃ p2 : Nat, bb - pa = p2 := ⟨_, rfl⟩
              have hw3 : IntKind.i64.wrap ((bb : Int) - (pa : Int)) = (p2 : Int) := by have := HP.out; have := HAB.out; rw [IntWalk.i64_in _ (by omega)]; omega
              have HP2 := Lib.hid (show a ≤ p2 ∧ p2 < b by have := HP.out; omega)
              clear hh hpa hbb hp2
              go_wp2_with fail
              refine HRV.out.mono ?_; rintro e w2 ⟨rfl, f4, r1, r2, r3⟩
              have R1 := Lib.hid r1
              have R2 := Lib.hid (HS.out.trans r2)
              have R3 := Lib.hid (HK1.out.trans r3)
              clear r1 r2 r3
              go_wp2_with fail
              go_meet
              exact ⟨p2, 1, f4, rfl, rfl, HP2.out.1, HP2.out.2, R1.out, R2.out, R3.out⟩
            · have hh2 : (hint == 2) = false := beq_eq_false_iff_ne.2 hh
              clear hh
              go_wp2_with fail
              go_meet
              exact ⟨p, hint, f3, rfl, rfl, HP.out.1, HP.out.2, HR1.out, HS.out, HK1.out⟩
          case rest =>
            clear HR1 HS HK1 HP
            obtain ⟨p, hint, f3, rfl, rfl, hp1, hp2, hR, hS, hK⟩ := hcut
            have HR := Lib.hid hR
            have HS := Lib.hid hS
            have HK := Lib.hid hK
            have HP := Lib.hid (And.intro hp1 hp2)
            clear hR hS hK hp1 hp2
            have HPI := Lib.hid (pins_any g n cap a b f3 wc HR.out (by have := HG.out; omega) HAB.out.2 (by omega))
            go_upto_region 15 with fail
            go_cut [68] (fun s68 wx => ∃ q : Bool, s68 = .bool q ∧ wc = wx)
            case first =>
              cases wb with
              | false =>
                go_wp2_with fail
                go_meet
                exact ⟨false, rfl, rfl⟩
              | true =>
                cases wp with
                | false =>
                  go_wp2_with fail
                  go_meet
                  exact ⟨false, rfl, rfl⟩
                | true =>
                  go_wp2_with fail
                  go_meet
                  exact ⟨hint == 1, rfl, rfl⟩
            case rest =>
              obtain ⟨q, rfl, rfl⟩ := hcut
              go_upto_if 68 with fail
              go_cut [] (fun wx => ∃ f4, RowF wx g n f4 ∧ Shuf n f f4 ∧ Keeps (· = g) w wx)
              case first =>
                cases q with
                | false =>
                  go_wp2_with fail
                  go_meet
                  exact ⟨f3, HR.out, HS.out, HK.out⟩
                | true =>
                  go_wp2_with fail
                  refine HPI.out.mono ?_; rintro e w1 ⟨q2, rfl, f4, r1, r2, r3⟩
                  have R1 := Lib.hid r1
                  have R2 := Lib.hid (HS.out.trans r2)
                  have R3 := Lib.hid (HK.out.trans r3)
                  clear r1 r2 r3
                  cases q2 with
                  | true =>
                    go_wp2_with fail
                    refine bodyPost_ret (results_none rfl _ _ _) rfl ?_
                    exact ⟨rfl, f4, R1.out, R2.out, R3.out, fun h => absurd h HN.out⟩
                  | false =>
                    go_wp2_with fail
                    go_meet
                    exact ⟨f4, R1.out, R2.out, R3.out⟩
              case rest =>
                clear HR HS HK HPI
                obtain ⟨f3, hR, hS, hK⟩ := hcut
                have HR := Lib.hid hR
                have HS := Lib.hid hS
                have HK := Lib.hid hK
                clear hR hS hK
                have p0 : (0 : Int) ≤ (p : Int) := by omega
                have p1 : (p : Int) < (n : Int) := by have := HP.out; have := HAB.out; omega
                have HPN := Lib.hid (show p < n by omega)
                have HPE := Lib.hid (fun (w1 : World) (h : RowF w1 g n f3) => peq_any g n cap a b p f3 w1 h HP.out.1 HP.out.2 HAB.out.2 (by omega))
                have HPT := Lib.hid (fun (w1 : World) (h : RowF w1 g n f3) => part_any g n cap a b p f3 w1 h HP.out.1 HP.out.2 HAB.out.2 (by omega))
                go_upto_region 17 with fail
                go_cut [87] (fun s87 wx => ∃ q : Bool, s87 = .bool q ∧ RowF wx g n f3 ∧ Keeps (· = g) w wx)
                case first =>
                  by_cases ha0 : (0 : Int) < (a : Int)
                  · obtain ⟨q, hq⟩ : ∃ q, a = q + 1 := ⟨a - 1, by omega⟩
                    have hwq : IntKind.i64.wrap ((a : Int) - 1) = (q : Int) := by have := HAB.out; rw [IntWalk.i64_in _ (by omega)]; omega
                    have ha1 : 0 < a := by omega
                    have q0 : (0 : Int) ≤ (q : Int) := by omega
                    have q1 : (q : Int) < (n : Int) := by have := HAB.out; have := HG.out; omega
                    have c1 := HR.out.cell (j := q) (by omega)
                    have c2 := HR.out.cell (j := p) HPN.out
                    obtain ⟨x, hx⟩ : ∃ x, f3 q = x := ⟨_, rfl⟩
                    obtain ⟨y, hy⟩ : ∃ y, f3 p = y := ⟨_, rfl⟩
                    rw [hx] at c1
                    rw [hy] at c2
                    have hls := lessF_any x y
                    clear hx hy hq
                    by_cases hxy : x < y
                    · rw [decide_eq_true hxy] at hls
                      have HLS := Lib.hid hls
                      clear hls
                      refine wp_region_noPanic ?_
                      refine wp_region_held_drew (S := (fun w' => w'.cell? ⟨g, q, none⟩ = some (.int .u32 x) ∧ w'.cell? ⟨g, p, none⟩ = some (.int .u32 y))) (by kernel_rfl) ?_ (fun hHeld => ?_)
                      · ((try dsimp only); refine ⟨?_, ?_⟩ <;> (first | assumption | (go_keep; done)))
                      refine wpAnyH_take (i := 0) (oi := ⟨some 73, _, _, _, _, _⟩) (v := ?_) rfl (by kernel_rfl) (by kernel_rfl) (by kernel_rfl) (fun _ _ _ h => False.elim h) (Or.inl ⟨by rfl, ?_⟩) (by assumption) ?_
                      rotate_left
                      · intro w hSw
                        (try dsimp only at hSw)
                        go_simp
                        all_goals with_reducible rfl
                      (try simp only [Act.put, List.setIfInBounds_toArray, List.set_cons_zero, List.set_cons_succ])
                      refine wpAnyH_take (i := 1) (oi := ⟨some 74, _, _, _, _, _⟩) (v := ?_) rfl (by kernel_rfl) (by kernel_rfl) (by kernel_rfl) (fun _ _ _ h => False.elim h) (Or.inl ⟨by rfl, ?_⟩) (by assumption) ?_
                      rotate_left
                      · intro w hSw
                        (try dsimp only at hSw)
                        go_simp
                        all_goals with_reducible rfl
                      (try simp only [Act.put, List.setIfInBounds_toArray, List.set_cons_zero, List.set_cons_succ])
                      refine wpAnyH_take (i := 2) (oi := ⟨some 75, _, _, _, _, _⟩) (v := ?_) rfl (by kernel_rfl) (by kernel_rfl) (by kernel_rfl) (fun _ _ _ h => False.elim h) (Or.inl ⟨by rfl, ?_⟩) (by assumption) ?_
                      rotate_left
                      · intro w hSw
                        (try dsimp only at hSw)
                        go_simp
                        all_goals with_reducible rfl
                      (try simp only [Act.put, List.setIfInBounds_toArray, List.set_cons_zero, List.set_cons_succ])
                      refine wpAnyH_take (i := 3) (oi := ⟨some 76, _, _, _, _, _⟩) (v := ?_) rfl (by kernel_rfl) (by kernel_rfl) (by kernel_rfl) (fun _ _ _ h => False.elim h) (Or.inl ⟨by rfl, ?_⟩) (by assumption) ?_
                      rotate_left
                      · intro w hSw
                        (try dsimp only at hSw)
                        go_simp
                        all_goals with_reducible rfl
                      (try simp only [Act.put, List.setIfInBounds_toArray, List.set_cons_zero, List.set_cons_succ])
                      refine wpAnyH_take (i := 4) (oi := ⟨some 77, _, _, _, _, _⟩) (v := ?_) rfl (by kernel_rfl) (by kernel_rfl) (by kernel_rfl) (fun _ _ _ h => False.elim h) (Or.inl ⟨by rfl, ?_⟩) (by assumption) ?_
                      rotate_left
                      · intro w hSw
                        (try dsimp only at hSw)
                        go_simp
                        all_goals with_reducible rfl
                      (try simp only [Act.put, List.setIfInBounds_toArray, List.set_cons_zero, List.set_cons_succ])
                      refine wpAnyH_take (i := 5) (oi := ⟨some 78, _, _, _, _, _⟩) (v := ?_) rfl (by kernel_rfl) (by kernel_rfl) (by kernel_rfl) (fun _ _ _ h => False.elim h) (Or.inl ⟨by rfl, ?_⟩) (by assumption) ?_
                      rotate_left
                      · intro w hSw
                        (try dsimp only at hSw)
                        go_simp
                        all_goals with_reducible rfl
                      (try simp only [Act.put, List.setIfInBounds_toArray, List.set_cons_zero, List.set_cons_succ])
                      refine wpAnyH_take (i := 6) (oi := ⟨some 79, _, _, _, _, _⟩) (v := ?_) rfl (by kernel_rfl) (by kernel_rfl) (by kernel_rfl) (fun _ _ _ h => False.elim h) (Or.inl ⟨by rfl, ?_⟩) (by assumption) ?_
                      rotate_left
                      · intro w hSw
                        (try dsimp only at hSw)
                        go_simp
                        all_goals with_reducible rfl
                      (try simp only [Act.put, List.setIfInBounds_toArray, List.set_cons_zero, List.set_cons_succ])
                      refine wpAnyH_take (i := 7) (oi := ⟨some 80, _, _, _, _, _⟩) (v := ?_) rfl (by kernel_rfl) (by kernel_rfl) (by kernel_rfl) (fun _ _ _ h => False.elim h) (Or.inl ⟨by rfl, ?_⟩) (by assumption) ?_
                      rotate_left
                      · intro w hSw
                        (try dsimp only at hSw)
                        go_simp
                        all_goals with_reducible rfl
                      (try simp only [Act.put, List.setIfInBounds_toArray, List.set_cons_zero, List.set_cons_succ])
                      refine wpAnyH_take (i := 8) (oi := ⟨some 81, _, _, _, _, _⟩) (v := ?_) rfl (by kernel_rfl) (by kernel_rfl) (by kernel_rfl) (fun _ _ _ h => False.elim h) (Or.inl ⟨by rfl, ?_⟩) (by assumption) ?_
                      rotate_left
                      · intro w hSw
                        (try dsimp only at hSw)
                        go_simp
                        all_goals with_reducible rfl
                      (try simp only [Act.put, List.setIfInBounds_toArray, List.set_cons_zero, List.set_cons_succ])
                      refine wpAnyH_take (i := 9) (oi := ⟨some 82, _, _, _, _, _⟩) (v := ?_) rfl (by kernel_rfl) (by kernel_rfl) (by kernel_rfl) (fun _ _ _ h => False.elim h) (Or.inl ⟨by rfl, ?_⟩) (by assumption) ?_
                      rotate_left
                      · intro w hSw
                        (try dsimp only at hSw)
                        go_simp
                        all_goals with_reducible rfl
                      (try simp only [Act.put, List.setIfInBounds_toArray, List.set_cons_zero, List.set_cons_succ])
                      refine wpAnyH_take (i := 10) (oi := ⟨some 83, _, _, _, _, _⟩) (v := ?_) rfl (by kernel_rfl) (by kernel_rfl) (by kernel_rfl) (fun _ _ _ h => False.elim h) (Or.inl ⟨by rfl, ?_⟩) (by assumption) ?_
                      rotate_left
                      · intro w hSw
                        (try dsimp only at hSw)
                        go_simp
                        all_goals with_reducible rfl
                      (try simp only [Act.put, List.setIfInBounds_toArray, List.set_cons_zero, List.set_cons_succ])
                      refine wpAnyH_take (i := 11) (oi := ⟨some 84, _, _, _, _, _⟩) (v := ?_) rfl (by kernel_rfl) (by kernel_rfl) (by kernel_rfl) (fun _ _ _ h => False.elim h) (Or.inl ⟨by rfl, ?_⟩) (by assumption) ?_
                      rotate_left
                      · intro w hSw
                        (try dsimp only at hSw)
                        go_simp
                        all_goals with_reducible rfl
                      (try simp only [Act.put, List.setIfInBounds_toArray, List.set_cons_zero, List.set_cons_succ])
                      refine wpAnyH_ready (rs := [12]) (by kernel_rfl) (by simp) ?_
                      refine AllReadyH.cons (o := ⟨some 85, _, _, _, _, _⟩) rfl (fun K hK => ?_) AllReadyH.nil
                      go_simp
                      (refine (HLS.out _).mono ?_; rintro en wc2 ⟨rfl, rfl⟩)
                      (try go_wp2_with fail)
                      refine hK.out _ _ ?_ (fun hHeld => ?_)
                      · ((try dsimp only); refine ⟨?_, ?_⟩ <;> (first | assumption | (go_keep; done)))
                      clear hK K
                      (try simp only [Act.put, List.setIfInBounds_toArray, List.set_cons_zero, List.set_cons_succ])
                      refine wpAnyH_take (i := 13) (oi := ⟨some 86, _, _, _, _, _⟩) (v := ?_) rfl (by kernel_rfl) (by kernel_rfl) (by kernel_rfl) (fun _ _ _ h => False.elim h) (Or.inl ⟨by rfl, ?_⟩) (by assumption) ?_
                      rotate_left
                      · intro w hSw
                        (try dsimp only at hSw)
                        go_simp
                        all_goals with_reducible rfl
                      (try simp only [Act.put, List.setIfInBounds_toArray, List.set_cons_zero, List.set_cons_succ])
                      refine wpAnyH_take (i := 14) (oi := ⟨some 87, _, _, _, _, _⟩) (v := ?_) rfl (by kernel_rfl) (by kernel_rfl) (by kernel_rfl) (fun _ _ _ h => False.elim h) (Or.inl ⟨by rfl, ?_⟩) (by assumption) ?_
                      rotate_left
                      · intro w hSw
                        (try dsimp only at hSw)
                        go_simp
                        all_goals with_reducible rfl
                      (try simp only [Act.put, List.setIfInBounds_toArray, List.set_cons_zero, List.set_cons_succ])
                      refine wpAnyH_done (by kernel_rfl) ?_ _
                      refine NoPanic.normal ?_
                      go_wp2_with fail
                      go_meet
                      exact ⟨false, rfl, HR.out, HK.out.drew⟩
                    · rw [decide_eq_false hxy] at hls
                      have HLS := Lib.hid hls
                      clear hls
                      refine wp_region_noPanic ?_
                      refine wp_region_held_drew (S := (fun w' => w'.cell? ⟨g, q, none⟩ = some (.int .u32 x) ∧ w'.cell? ⟨g, p, none⟩ = some (.int .u32 y))) (by kernel_rfl) ?_ (fun hHeld => ?_)
                      · ((try dsimp only); refine ⟨?_, ?_⟩ <;> (first | assumption | (go_keep; done)))
                      refine wpAnyH_take (i := 0) (oi := ⟨some 73, _, _, _, _, _⟩) (v := ?_) rfl (by kernel_rfl) (by kernel_rfl) (by kernel_rfl) (fun _ _ _ h => False.elim h) (Or.inl ⟨by rfl, ?_⟩) (by assumption) ?_
                      rotate_left
                      · intro w hSw
                        (try dsimp only at hSw)
                        go_simp
                        all_goals with_reducible rfl
                      (try simp only [Act.put, List.setIfInBounds_toArray, List.set_cons_zero, List.set_cons_succ])
                      refine wpAnyH_take (i := 1) (oi := ⟨some 74, _, _, _, _, _⟩) (v := ?_) rfl (by kernel_rfl) (by kernel_rfl) (by kernel_rfl) (fun _ _ _ h => False.elim h) (Or.inl ⟨by rfl, ?_⟩) (by assumption) ?_
                      rotate_left
                      · intro w hSw
                        (try dsimp only at hSw)
                        go_simp
                        all_goals with_reducible rfl
                      (try simp only [Act.put, List.setIfInBounds_toArray, List.set_cons_zero, List.set_cons_succ])
                      refine wpAnyH_take (i := 2) (oi := ⟨some 75, _, _, _, _, _⟩) (v := ?_) rfl (by kernel_rfl) (by kernel_rfl) (by kernel_rfl) (fun _ _ _ h => False.elim h) (Or.inl ⟨by rfl, ?_⟩) (by assumption) ?_
                      rotate_left
                      · intro w hSw
                        (try dsimp only at hSw)
                        go_simp
                        all_goals with_reducible rfl
                      (try simp only [Act.put, List.setIfInBounds_toArray, List.set_cons_zero, List.set_cons_succ])
                      refine wpAnyH_take (i := 3) (oi := ⟨some 76, _, _, _, _, _⟩) (v := ?_) rfl (by kernel_rfl) (by kernel_rfl) (by kernel_rfl) (fun _ _ _ h => False.elim h) (Or.inl ⟨by rfl, ?_⟩) (by assumption) ?_
                      rotate_left
                      · intro w hSw
                        (try dsimp only at hSw)
                        go_simp
                        all_goals with_reducible rfl
                      (try simp only [Act.put, List.setIfInBounds_toArray, List.set_cons_zero, List.set_cons_succ])
                      refine wpAnyH_take (i := 4) (oi := ⟨some 77, _, _, _, _, _⟩) (v := ?_) rfl (by kernel_rfl) (by kernel_rfl) (by kernel_rfl) (fun _ _ _ h => False.elim h) (Or.inl ⟨by rfl, ?_⟩) (by assumption) ?_
                      rotate_left
                      · intro w hSw
                        (try dsimp only at hSw)
                        go_simp
                        all_goals with_reducible rfl
                      (try simp only [Act.put, List.setIfInBounds_toArray, List.set_cons_zero, List.set_cons_succ])
                      refine wpAnyH_take (i := 5) (oi := ⟨some 78, _, _, _, _, _⟩) (v := ?_) rfl (by kernel_rfl) (by kernel_rfl) (by kernel_rfl) (fun _ _ _ h => False.elim h) (Or.inl ⟨by rfl, ?_⟩) (by assumption) ?_
                      rotate_left
                      · intro w hSw
                        (try dsimp only at hSw)
                        go_simp
                        all_goals with_reducible rfl
                      (try simp only [Act.put, List.setIfInBounds_toArray, List.set_cons_zero, List.set_cons_succ])
                      refine wpAnyH_take (i := 6) (oi := ⟨some 79, _, _, _, _, _⟩) (v := ?_) rfl (by kernel_rfl) (by kernel_rfl) (by kernel_rfl) (fun _ _ _ h => False.elim h) (Or.inl ⟨by rfl, ?_⟩) (by assumption) ?_
                      rotate_left
                      · intro w hSw
                        (try dsimp only at hSw)
                        go_simp
                        all_goals with_reducible rfl
                      (try simp only [Act.put, List.setIfInBounds_toArray, List.set_cons_zero, List.set_cons_succ])
                      refine wpAnyH_take (i := 7) (oi := ⟨some 80, _, _, _, _, _⟩) (v := ?_) rfl (by kernel_rfl) (by kernel_rfl) (by kernel_rfl) (fun _ _ _ h => False.elim h) (Or.inl ⟨by rfl, ?_⟩) (by assumption) ?_
                      rotate_left
                      · intro w hSw
                        (try dsimp only at hSw)
                        go_simp
                        all_goals with_reducible rfl
                      (try simp only [Act.put, List.setIfInBounds_toArray, List.set_cons_zero, List.set_cons_succ])
                      refine wpAnyH_take (i := 8) (oi := ⟨some 81, _, _, _, _, _⟩) (v := ?_) rfl (by kernel_rfl) (by kernel_rfl) (by kernel_rfl) (fun _ _ _ h => False.elim h) (Or.inl ⟨by rfl, ?_⟩) (by assumption) ?_
                      rotate_left
                      · intro w hSw
                        (try dsimp only at hSw)
                        go_simp
                        all_goals with_reducible rfl
                      (try simp only [Act.put, List.setIfInBounds_toArray, List.set_cons_zero, List.set_cons_succ])
                      refine wpAnyH_take (i := 9) (oi := ⟨some 82, _, _, _, _, _⟩) (v := ?_) rfl (by kernel_rfl) (by kernel_rfl) (by kernel_rfl) (fun _ _ _ h => False.elim h) (Or.inl ⟨by rfl, ?_⟩) (by assumption) ?_
                      rotate_left
                      · intro w hSw
                        (try dsimp only at hSw)
                        go_simp
                        all_goals with_reducible rfl
                      (try simp only [Act.put, List.setIfInBounds_toArray, List.set_cons_zero, List.set_cons_succ])
                      refine wpAnyH_take (i := 10) (oi := ⟨some 83, _, _, _, _, _⟩) (v := ?_) rfl (by kernel_rfl) (by kernel_rfl) (by kernel_rfl) (fun _ _ _ h => False.elim h) (Or.inl ⟨by rfl, ?_⟩) (by assumption) ?_
                      rotate_left
                      · intro w hSw
                        (try dsimp only at hSw)
                        go_simp
                        all_goals with_reducible rfl
                      (try simp only [Act.put, List.setIfInBounds_toArray, List.set_cons_zero, List.set_cons_succ])
                      refine wpAnyH_take (i := 11) (oi := ⟨some 84, _, _, _, _, _⟩) (v := ?_) rfl (by kernel_rfl) (by kernel_rfl) (by kernel_rfl) (fun _ _ _ h => False.elim h) (Or.inl ⟨by rfl, ?_⟩) (by assumption) ?_
                      rotate_left
                      · intro w hSw
                        (try dsimp only at hSw)
                        go_simp
                        all_goals with_reducible rfl
                      (try simp only [Act.put, List.setIfInBounds_toArray, List.set_cons_zero, List.set_cons_succ])
                      refine wpAnyH_ready (rs := [12]) (by kernel_rfl) (by simp) ?_
                      refine AllReadyH.cons (o := ⟨some 85, _, _, _, _, _⟩) rfl (fun K hK => ?_) AllReadyH.nil
                      go_simp
                      (refine (HLS.out _).mono ?_; rintro en wc2 ⟨rfl, rfl⟩)
                      (try go_wp2_with fail)
                      refine hK.out _ _ ?_ (fun hHeld => ?_)
                      · ((try dsimp only); refine ⟨?_, ?_⟩ <;> (first | assumption | (go_keep; done)))
                      clear hK K
                      (try simp only [Act.put, List.setIfInBounds_toArray, List.set_cons_zero, List.set_cons_succ])
                      refine wpAnyH_take (i := 13) (oi := ⟨some 86, _, _, _, _, _⟩) (v := ?_) rfl (by kernel_rfl) (by kernel_rfl) (by kernel_rfl) (fun _ _ _ h => False.elim h) (Or.inl ⟨by rfl, ?_⟩) (by assumption) ?_
                      rotate_left
                      · intro w hSw
                        (try dsimp only at hSw)
                        go_simp
                        all_goals with_reducible rfl
                      (try simp only [Act.put, List.setIfInBounds_toArray, List.set_cons_zero, List.set_cons_succ])
                      refine wpAnyH_take (i := 14) (oi := ⟨some 87, _, _, _, _, _⟩) (v := ?_) rfl (by kernel_rfl) (by kernel_rfl) (by kernel_rfl) (fun _ _ _ h => False.elim h) (Or.inl ⟨by rfl, ?_⟩) (by assumption) ?_
                      rotate_left
                      · intro w hSw
                        (try dsimp only at hSw)
                        go_simp
                        all_goals with_reducible rfl
                      (try simp only [Act.put, List.setIfInBounds_toArray, List.set_cons_zero, List.set_cons_succ])
                      refine wpAnyH_done (by kernel_rfl) ?_ _
                      refine NoPanic.normal ?_
                      go_wp2_with fail
                      go_meet
                      exact ⟨true, rfl, HR.out, HK.out.drew⟩
                  · have ha0f : ((0 : Int) < (a : Int)) = False := eq_false ha0
                    have ha0g : (0 < a) = False := eq_false (by omega)
                    clear ha0
                    refine wp_region_noPanic ?_
                    refine wp_region_held_drew (S := (fun w' => True)) (by kernel_rfl) ?_ (fun hHeld => ?_)
                    · ((try dsimp only) <;> (first | assumption | (go_keep; done)))
                    refine wpAnyH_take (i := 0) (oi := ⟨some 73, _, _, _, _, _⟩) (v := ?_) rfl (by kernel_rfl) (by kernel_rfl) (by kernel_rfl) (fun _ _ _ h => False.elim h) (Or.inl ⟨by rfl, ?_⟩) (by assumption) ?_
                    rotate_left
                    · intro w hSw
                      (try dsimp only at hSw)
                      go_simp
                      all_goals with_reducible rfl
                    (try simp only [Act.put, List.setIfInBounds_toArray, List.set_cons_zero, List.set_cons_succ])
                    refine wpAnyH_take (i := 1) (oi := ⟨some 74, _, _, _, _, _⟩) (v := ?_) rfl (by kernel_rfl) (by kernel_rfl) (by kernel_rfl) (fun _ _ _ h => False.elim h) (Or.inl ⟨by rfl, ?_⟩) (by assumption) ?_
                    rotate_left
                    · intro w hSw
                      (try dsimp only at hSw)
                      go_simp
                      all_goals with_reducible rfl
                    (try simp only [Act.put, List.setIfInBounds_toArray, List.set_cons_zero, List.set_cons_succ])
                    refine wpAnyH_take (i := 2) (oi := ⟨some 75, _, _, _, _, _⟩) (v := ?_) rfl (by kernel_rfl) (by kernel_rfl) (by kernel_rfl) (fun _ _ _ h => False.elim h) (Or.inl ⟨by rfl, ?_⟩) (by assumption) ?_
                    rotate_left
                    · intro w hSw
                      (try dsimp only at hSw)
                      go_simp
                      all_goals with_reducible rfl
                    (try simp only [Act.put, List.setIfInBounds_toArray, List.set_cons_zero, List.set_cons_succ])
                    refine wpAnyH_take (i := 3) (oi := ⟨some 76, _, _, _, _, _⟩) (v := undef) rfl (by kernel_rfl) (by kernel_rfl) (by kernel_rfl) (fun _ _ _ h => False.elim h) (Or.inr ⟨by rfl, rfl⟩) (by assumption) ?_
                    (try simp only [Act.put, List.setIfInBounds_toArray, List.set_cons_zero, List.set_cons_succ])
                    refine wpAnyH_take (i := 4) (oi := ⟨some 77, _, _, _, _, _⟩) (v := undef) rfl (by kernel_rfl) (by kernel_rfl) (by kernel_rfl) (fun _ _ _ h => False.elim h) (Or.inr ⟨by rfl, rfl⟩) (by assumption) ?_
                    (try simp only [Act.put, List.setIfInBounds_toArray, List.set_cons_zero, List.set_cons_succ])
                    refine wpAnyH_take (i := 5) (oi := ⟨some 78, _, _, _, _, _⟩) (v := undef) rfl (by kernel_rfl) (by kernel_rfl) (by kernel_rfl) (fun _ _ _ h => False.elim h) (Or.inr ⟨by rfl, rfl⟩) (by assumption) ?_
                    (try simp only [Act.put, List.setIfInBounds_toArray, List.set_cons_zero, List.set_cons_succ])
                    refine wpAnyH_take (i := 6) (oi := ⟨some 79, _, _, _, _, _⟩) (v := undef) rfl (by kernel_rfl) (by kernel_rfl) (by kernel_rfl) (fun _ _ _ h => False.elim h) (Or.inr ⟨by rfl, rfl⟩) (by assumption) ?_
                    (try simp only [Act.put, List.setIfInBounds_toArray, List.set_cons_zero, List.set_cons_succ])
                    refine wpAnyH_take (i := 7) (oi := ⟨some 80, _, _, _, _, _⟩) (v := undef) rfl (by kernel_rfl) (by kernel_rfl) (by kernel_rfl) (fun _ _ _ h => False.elim h) (Or.inr ⟨by rfl, rfl⟩) (by assumption) ?_
                    (try simp only [Act.put, List.setIfInBounds_toArray, List.set_cons_zero, List.set_cons_succ])
                    refine wpAnyH_take (i := 8) (oi := ⟨some 81, _, _, _, _, _⟩) (v := undef) rfl (by kernel_rfl) (by kernel_rfl) (by kernel_rfl) (fun _ _ _ h => False.elim h) (Or.inr ⟨by rfl, rfl⟩) (by assumption) ?_
                    (try simp only [Act.put, List.setIfInBounds_toArray, List.set_cons_zero, List.set_cons_succ])
                    refine wpAnyH_take (i := 9) (oi := ⟨some 82, _, _, _, _, _⟩) (v := undef) rfl (by kernel_rfl) (by kernel_rfl) (by kernel_rfl) (fun _ _ _ h => False.elim h) (Or.inr ⟨by rfl, rfl⟩) (by assumption) ?_
                    (try simp only [Act.put, List.setIfInBounds_toArray, List.set_cons_zero, List.set_cons_succ])
                    refine wpAnyH_take (i := 10) (oi := ⟨some 83, _, _, _, _, _⟩) (v := undef) rfl (by kernel_rfl) (by kernel_rfl) (by kernel_rfl) (fun _ _ _ h => False.elim h) (Or.inr ⟨by rfl, rfl⟩) (by assumption) ?_
                    (try simp only [Act.put, List.setIfInBounds_toArray, List.set_cons_zero, List.set_cons_succ])
                    refine wpAnyH_take (i := 11) (oi := ⟨some 84, _, _, _, _, _⟩) (v := undef) rfl (by kernel_rfl) (by kernel_rfl) (by kernel_rfl) (fun _ _ _ h => False.elim h) (Or.inr ⟨by rfl, rfl⟩) (by assumption) ?_
                    (try simp only [Act.put, List.setIfInBounds_toArray, List.set_cons_zero, List.set_cons_succ])
                    refine wpAnyH_take (i := 12) (oi := ⟨some 85, _, _, _, _, _⟩) (v := undef) rfl (by kernel_rfl) (by kernel_rfl) (by kernel_rfl) (fun _ _ _ h => False.elim h) (Or.inr ⟨by rfl, rfl⟩) (by assumption) ?_
                    (try simp only [Act.put, List.setIfInBounds_toArray, List.set_cons_zero, List.set_cons_succ])
                    refine wpAnyH_take (i := 13) (oi := ⟨some 86, _, _, _, _, _⟩) (v := undef) rfl (by kernel_rfl) (by kernel_rfl) (by kernel_rfl) (fun _ _ _ h => False.elim h) (Or.inr ⟨by rfl, rfl⟩) (by assumption) ?_
                    (try simp only [Act.put, List.setIfInBounds_toArray, List.set_cons_zero, List.set_cons_succ])
                    refine wpAnyH_take (i := 14) (oi := ⟨some 87, _, _, _, _, _⟩) (v := ?_) rfl (by kernel_rfl) (by kernel_rfl) (by kernel_rfl) (fun _ _ _ h => False.elim h) (Or.inl ⟨by rfl, ?_⟩) (by assumption) ?_
                    rotate_left
                    · intro w hSw
                      (try dsimp only at hSw)
                      go_simp
                      all_goals with_reducible rfl
                    (try simp only [Act.put, List.setIfInBounds_toArray, List.set_cons_zero, List.set_cons_succ])
                    refine wpAnyH_done (by kernel_rfl) ?_ _
                    refine NoPanic.normal ?_
                    go_wp2_with fail
                    go_meet
                    exact ⟨false, rfl, HR.out, HK.out.drew⟩
                case rest =>
                  clear HR HK
                  obtain ⟨q, rfl, hR, hK⟩ := hcut
                  have HR := Lib.hid hR
                  have HK := Lib.hid hK
                  clear hR hK p0 p1
                  cases q with
                  | true =>
                    go_wp2_with fail
                    refine (HPE.out _ HR.out).mono ?_; rintro e w1 ⟨mid, rfl, hm1, hm2, f4, r1, r2, r3⟩
                    have R1 := Lib.hid r1
                    have R2 := Lib.hid (HS.out.trans r2)
                    have R3 := Lib.hid (HK.out.trans r3)
                    have HF := Lib.hid (show b - mid < b - a ∧ b - mid ≤ B - A ∧ mid ≤ b ∧ b ≤ n by have := HLE.out; have := HAB.out; have := HG.out; omega)
                    clear r1 r2 r3 hm1 hm2
                    go_wp2_with fail
                    go_roundg (b - mid)
                    case rel => exact ⟨mid, b, lim2, wb, wp, f4, rfl, HF.out.2.1, HF.out.2.2.1, HF.out.2.2.2, fun h => absurd h HN.out, rfl, rfl, rfl, rfl, rfl, R1.out, R2.out, R3.out⟩
                    case measure => exact HF.out.1
                  | false =>
                    go_wp2_with fail
                    refine (HPT.out _ HR.out).mono ?_; rintro e w1 ⟨mid, ap, rfl, hm1, hm2, f4, r1, r2, r3⟩
                    have HR4 := Lib.hid r1
                    have HS4 := Lib.hid (HS.out.trans r2)
                    have HK4 := Lib.hid (HK.out.trans r3)
                    have HM := Lib.hid (And.intro hm1 hm2)
                    clear r1 r2 r3 HR HS HK
                    obtain ⟨ll, hll⟩ : ∃ ll : Nat, mid - a = ll := ⟨_, rfl⟩
                    obtain ⟨rl, hrl⟩ : ∃ rl : Nat, b - mid = rl := ⟨_, rfl⟩
                    have hw1 : IntKind.i64.wrap ((mid : Int) - (a : Int)) = (ll : Int) := by have := HAB.out; rw [IntWalk.i64_in _ (by omega)]; omega
                    have hw2 : IntKind.i64.wrap ((b : Int) - (mid : Int)) = (rl : Int) := by have := HAB.out; rw [IntWalk.i64_in _ (by omega)]; omega
                    have hw3 : IntKind.i64.wrap ((mid : Int) + 1) = ((mid + 1 : Nat) : Int) := by have := HAB.out; rw [IntWalk.i64_in _ (by omega)]; omega
                    have HF := Lib.hid (show mid - a < B - A ∧ a ≤ mid ∧ mid ≤ n ∧ b - (mid + 1) < B - A ∧ mid + 1 ≤ b ∧ b ≤ n ∧ b - (mid + 1) < b - a ∧ mid - a < b - a by have := HLE.out; have := HAB.out; have := HG.out; omega)
                    clear hll hrl hm1 hm2
                    by_cases hlr : (ll : Int) < (rl : Int)
                    · go_wp2_with fail
                      refine (HIH.out a mid lim2 f4 _ HF.out.1 HR4.out HF.out.2.1 HF.out.2.2.1).mono ?_; rintro e w2 ⟨rfl, f5, r1, r2, r3, r4⟩
                      have R1 := Lib.hid r1
                      have R2 := Lib.hid (HS4.out.trans r2)
                      have R3 := Lib.hid (HK4.out.trans r3)
                      clear r1 r2 r3 r4
                      go_wp2_with fail
                      go_roundg (b - (mid + 1))
                      case rel => exact ⟨mid + 1, b, lim2, _, ap, f5, rfl, (by have := HF.out; omega), HF.out.2.2.2.2.1, HF.out.2.2.2.2.2.1, fun h => absurd h HN.out, (by go_num), rfl, rfl, rfl, rfl, R1.out, R2.out, R3.out⟩
                      case measure => exact HF.out.2.2.2.2.2.2.1
                    · have hlrf : ((ll : Int) < (rl : Int)) = False := eq_false hlr
                      clear hlr
                      go_wp2_with fail
                      refine (HIH.out (mid + 1) b lim2 f4 _ HF.out.2.2.2.1 HR4.out HF.out.2.2.2.2.1 HF.out.2.2.2.2.2.1).mono ?_; rintro e w2 ⟨rfl, f5, r1, r2, r3, r4⟩
                      have R1 := Lib.hid r1
                      have R2 := Lib.hid (HS4.out.trans r2)
                      have R3 := Lib.hid (HK4.out.trans r3)
                      clear r1 r2 r3 r4
                      go_wp2_with fail
                      go_roundg (mid - a)
                      case rel => exact ⟨a, mid, lim2, _, ap, f5, rfl, (by have := HF.out; omega), HF.out.2.1, HF.out.2.2.1, fun h => absurd h HN.out, rfl, rfl, rfl, rfl, rfl, R1.out, R2.out, R3.out⟩
                      case measure => exact HF.out.2.2.2.2.2.2.2
end Go.Proofs.YtgecfcdafbedaaaGreat
