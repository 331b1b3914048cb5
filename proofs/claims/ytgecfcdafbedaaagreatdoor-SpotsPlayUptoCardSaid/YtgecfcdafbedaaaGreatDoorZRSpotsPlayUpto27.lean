/- The walk over the document's PutSpots, of any spots. -/
import Derived.Test.YtgecfcdafbedaaaGreatDoorZRSpotsPlayUpto25
import Derived.Test.YtgecfcdafbedaaaGreatDoorZRSpotsPlayUpto26
import Derived.Deep.RegionHeld3
import Derived.Deep.DeepCutAuto
import Derived.Deep.CutBlock
namespace Go.Proofs.YtgecfcdafbedaaaGreatDoor
open Go.RowKit Go.Shelf
set_option linter.unusedSimpArgs false
set_option linter.unusedVariables false

/-- What the document's PutSpots answers. -/
def RSpPut (w : World) (n : Nat) (xs : List Int) (e : Ending) (w' : World) : Prop :=
  ((SpOk n (atL xs) ∧ ∃ A c, e = .returned (.tuple #[.slice A (1 + 4 * n) c, .int .i64 0]) ∧ Rd w' .u8 A (1 + 4 * n) (spPre n (atL xs) n) ∧ (A = none → c = 0) ∧ 1 + 4 * n ≤ c)
    ∨ (¬ SpOk n (atL xs) ∧ e = .returned (.tuple #[.slice none 0 0, .int .i64 1]))) ∧ Below w.heap.size w w'
set_option maxRecDepth 100000 in
set_option maxHeartbeats 4000000 in
theorem rputspots_any (A : Option Addr) (n c : Nat) (xs : List Int) (w : World) (r : Rd w .u32 A n xs) :
    Calls Tryz.prog 35 #[.slice A n c] w (RSpPut w n xs) := by
  have hbig := r.big
  have HR := Lib.hid r
  have HB : Hid (Below w.heap.size w w) := Lib.hid (Below.refl _ _)
  clear r
  by_cases hn0 : n = 0
  · subst hn0
    have HNO : Hid (¬ SpOk 0 (atL xs)) := Lib.hid (fun h => by have := h.1; omega)
    go_enter Tryz.func35, Tryz.ntmps35
    go_wp2_with fail
    go_ret2
    exact ⟨.inr ⟨HNO.out, rfl⟩, HB.out⟩
  · by_cases hn4 : 4 < n
    · have HNO : Hid (¬ SpOk n (atL xs)) := Lib.hid (fun h => by have := h.2.1; omega)
      have f1 : ((n : Int) < 1) = False := eq_false (by omega)
      have f2 : ((4 : Int) < (n : Int)) = True := eq_true (by omega)
      clear hn0 hn4
      go_enter Tryz.func35, Tryz.ntmps35
      go_wp2_with fail
      go_ret2
      exact ⟨.inr ⟨HNO.out, rfl⟩, HB.out⟩
    · have f1 : ((n : Int) < 1) = False := eq_false (by omega)
      have f2 : ((4 : Int) < (n : Int)) = False := eq_false (by omega)
      obtain ⟨b, off, rfl, hbl, hcell⟩ := HR.out.row (by omega)
      have HBL := Lib.hid hbl
      have HCL : Hid (∀ W, Below w.heap.size w W → ∀ j, j < n → W.cell? ⟨b, off + j, none⟩ = some (.int .u32 (atL xs j))) := Lib.hid (fun W hW j hj => (hW.cell (p := ⟨b, off + j, none⟩) hbl).trans (hcell j hj))
      have HBD : Hid (∀ j, j < n → 0 ≤ atL xs j ∧ atL xs j ≤ 4294967295) := Lib.hid (fun j hj => wf_u32 (HR.out.mem hj))
      have hn14 : 1 ≤ n ∧ n ≤ 4 := by omega
      have hw8 : IntKind.u8.wrap (n : Int) = (n : Int) := IntWalk.u8_in _ (by omega)
      have HB3 : Hid (Below w.heap.size w (w.alloc (.cells #[.int .u8 (n : Int)] 5))) := Lib.hid (HB.out.alloc HB.out.size _)
      have HK3 : Hid (Blk (w.alloc (.cells #[.int .u8 (n : Int)] 5)) w.heap.size 5 ((spPre n (atL xs) 0).map (Value.int .u8))) := Lib.hid (Blk.new w 5 [.int .u8 (n : Int)])
      have HST : Hid (Rd (w.alloc (.cells #[.int .u8 (n : Int)] 5)) .u8 (some ⟨w.heap.size, 0, none⟩) 1 (spPre n (atL xs) 0)) := Lib.hid (rd_of_blk HK3.out (spPre_byte n _ (by omega) 0) (spPre_length ..) (by omega))
      clear hbl hcell hn0 hn4 HK3
      go_enter Tryz.func35, Tryz.ntmps35
      go_wp2_with fail
      go_loopw [4, 5] (fun v i wr => ∃ (k : Nat) (A' : Option Addr) (c' : Nat), k ≤ n ∧ i = .int .i64 (k : Int) ∧ v = .slice A' (1 + 4 * k) c' ∧ Rd wr .u8 A' (1 + 4 * k) (spPre n (atL xs) k) ∧ (A' = none → c' = 0) ∧ 1 + 4 * k ≤ c' ∧ (∀ j, j < k → atL xs j ≠ 0) ∧ (∀ i j, i < j → j < k → atL xs i ≠ atL xs j) ∧ Below w.heap.size w wr) (fun _ i _ => n - (intOf i).toNat)
      case atStart => exact ⟨0, _, 1, Nat.zero_le _, rfl, rfl, HST.out, (fun h => by cases h), Nat.le_refl _, (fun j hj => by omega), (fun i j _ hj => by omega), HB3.out⟩
      case round =>
        clear HST HB3 HB
        obtain ⟨k, A', c', hk, rfl, rfl, hr, hz, hc, hnz, hun, hB⟩ := hrel
        have HRK := Lib.hid hr
        have HZ := Lib.hid hz
        have HC := Lib.hid hc
        have HNZ := Lib.hid hnz
        have HUN := Lib.hid hun
        have HB1 := Lib.hid hB
        clear hr hz hnz hun hB hc
        by_cases hlt : k < n
        · obtain ⟨x, hx⟩ : ∃ x, atL xs k = x := ⟨_, rfl⟩
          have HX := Lib.hid hx
          obtain ⟨hx0, hx1⟩ : 0 ≤ x ∧ x ≤ 4294967295 := by rw [← hx]; exact HBD.out k hlt
          have HCX : Hid (∀ W, Below w.heap.size w W → W.cell? ⟨b, off + k, none⟩ = some (.int .u32 x)) := Lib.hid (fun W hW => by rw [HCL.out W hW k hlt, HX.out])
          have i0 : (0 : Int) ≤ (k : Int) := by omega
          have i1 : (k : Int) < (n : Int) := by omega
          obtain ⟨w1, hw1⟩ : ∃ w1 : World, w1 = wr := ⟨_, rfl⟩
          subst hw1
          clear hx
          go_wp2_with fail
          go_loopw [6] (fun i wr => ∃ j : Nat, j ≤ k ∧ i = .int .i64 (j : Int) ∧ (∀ i, i < j → atL xs i ≠ x) ∧ Below w1.heap.size w1 wr) (fun i _ => k - (intOf i).toNat)
          case atStart => exact ⟨0, Nat.zero_le _, rfl, (fun i hi => by omega), Below.refl _ _⟩
          case round =>
            obtain ⟨j, hj, rfl, hne, hB2⟩ := hrel
            have HNE := Lib.hid hne
            have HB2 := Lib.hid hB2
            have HBT := Lib.hid (HB1.out.trans (hB2.mono HB1.out.size))
            clear hne hB2
            have cx := HCX.out wr HBT.out
            by_cases hjk : j < k
            · obtain ⟨y, hy⟩ : ∃ y, atL xs j = y := ⟨_, rfl⟩
              have HY := Lib.hid hy
              have cy : wr.cell? ⟨b, off + j, none⟩ = some (.int .u32 y) := by rw [HCL.out wr HBT.out j (by omega), hy]
              have j0 : (0 : Int) ≤ (j : Int) := by omega
              have j1 : (j : Int) < (n : Int) := by omega
              have j2 : (j : Int) < (k : Int) := by omega
              clear hy
              by_cases hxy : y = x
              · have HNO : Hid (¬ SpOk n (atL xs)) := Lib.hid (fun h => h.2.2.2 j k hjk hlt (by rw [HY.out, HX.out]; exact hxy))
                have g1 : (y == x) = true := beq_iff_eq.2 hxy
                have HB : Hid (Below w.heap.size w wr.drew) := Lib.hid HBT.out.drew
                clear hxy
                go_upto_region 10 with fail
                refine wp_region_noPanic ?_
                refine wp_region_held_drew (S := (fun w' => w'.cell? ⟨b, off + j, none⟩ = some (.int .u32 y) ∧ w'.cell? ⟨b, off + k, none⟩ = some (.int .u32 x))) (by kernel_rfl) ?_ (fun hHeld => ?_)
                · ((try dsimp only); refine ⟨?_, ?_⟩ <;> (first | assumption | (go_keep; done)))
                refine wpAnyH_take (i := 0) (oi := ⟨some 30, _, _, _, _, _⟩) (v := ?_) rfl (by kernel_rfl) (by kernel_rfl) (by kernel_rfl) (fun _ _ _ h => False.elim h) (Or.inl ⟨by rfl, ?_⟩) (by assumption) ?_
                rotate_left
                · intro w hSw
                  (try dsimp only at hSw)
                  go_simp
                  all_goals with_reducible rfl
                (try simp only [Act.put, List.setIfInBounds_toArray, List.set_cons_zero, List.set_cons_succ])
                refine wpAnyH_take (i := 1) (oi := ⟨some 31, _, _, _, _, _⟩) (v := ?_) rfl (by kernel_rfl) (by kernel_rfl) (by kernel_rfl) (fun _ _ _ h => False.elim h) (Or.inl ⟨by rfl, ?_⟩) (by assumption) ?_
                rotate_left
                · intro w hSw
                  (try dsimp only at hSw)
                  go_simp
                  all_goals with_reducible rfl
                (try simp only [Act.put, List.setIfInBounds_toArray, List.set_cons_zero, List.set_cons_succ])
                refine wpAnyH_take (i := 2) (oi := ⟨some 32, _, _, _, _, _⟩) (v := ?_) rfl (by kernel_rfl) (by kernel_rfl) (by kernel_rfl) (fun _ _ _ h => False.elim h) (Or.inl ⟨by rfl, ?_⟩) (by assumption) ?_
                rotate_left
                · intro w hSw
                  (try dsimp only at hSw)
                  go_simp
                  all_goals with_reducible rfl
                (try simp only [Act.put, List.setIfInBounds_toArray, List.set_cons_zero, List.set_cons_succ])
                refine wpAnyH_take (i := 3) (oi := ⟨some 33, _, _, _, _, _⟩) (v := ?_) rfl (by kernel_rfl) (by kernel_rfl) (by kernel_rfl) (fun _ _ _ h => False.elim h) (Or.inl ⟨by rfl, ?_⟩) (by assumption) ?_
                rotate_left
                · intro w hSw
                  (try dsimp only at hSw)
                  go_simp
                  all_goals with_reducible rfl
                (try simp only [Act.put, List.setIfInBounds_toArray, List.set_cons_zero, List.set_cons_succ])
                refine wpAnyH_take (i := 4) (oi := ⟨some 34, _, _, _, _, _⟩) (v := ?_) rfl (by kernel_rfl) (by kernel_rfl) (by kernel_rfl) (fun _ _ _ h => False.elim h) (Or.inl ⟨by rfl, ?_⟩) (by assumption) ?_
                rotate_left
                · intro w hSw
                  (try dsimp only at hSw)
                  go_simp
                  all_goals with_reducible rfl
                (try simp only [Act.put, List.setIfInBounds_toArray, List.set_cons_zero, List.set_cons_succ])
                refine wpAnyH_take (i := 5) (oi := ⟨some 35, _, _, _, _, _⟩) (v := ?_) rfl (by kernel_rfl) (by kernel_rfl) (by kernel_rfl) (fun _ _ _ h => False.elim h) (Or.inl ⟨by rfl, ?_⟩) (by assumption) ?_
                rotate_left
                · intro w hSw
                  (try dsimp only at hSw)
                  go_simp
                  all_goals with_reducible rfl
                (try simp only [Act.put, List.setIfInBounds_toArray, List.set_cons_zero, List.set_cons_succ])
                refine wpAnyH_take (i := 6) (oi := ⟨some 36, _, _, _, _, _⟩) (v := ?_) rfl (by kernel_rfl) (by kernel_rfl) (by kernel_rfl) (fun _ _ _ h => False.elim h) (Or.inl ⟨by rfl, ?_⟩) (by assumption) ?_
                rotate_left
                · intro w hSw
                  (try dsimp only at hSw)
                  go_simp
                  all_goals with_reducible rfl
                (try simp only [Act.put, List.setIfInBounds_toArray, List.set_cons_zero, List.set_cons_succ])
                refine wpAnyH_take (i := 7) (oi := ⟨some 37, _, _, _, _, _⟩) (v := ?_) rfl (by kernel_rfl) (by kernel_rfl) (by kernel_rfl) (fun _ _ _ h => False.elim h) (Or.inl ⟨by rfl, ?_⟩) (by assumption) ?_
                rotate_left
                · intro w hSw
                  (try dsimp only at hSw)
                  go_simp
                  all_goals with_reducible rfl
                (try simp only [Act.put, List.setIfInBounds_toArray, List.set_cons_zero, List.set_cons_succ])
                refine wpAnyH_take (i := 8) (oi := ⟨some 38, _, _, _, _, _⟩) (v := ?_) rfl (by kernel_rfl) (by kernel_rfl) (by kernel_rfl) (fun _ _ _ h => False.elim h) (Or.inl ⟨by rfl, ?_⟩) (by assumption) ?_
                rotate_left
                · intro w hSw
                  (try dsimp only at hSw)
                  go_simp
                  all_goals with_reducible rfl
                (try simp only [Act.put, List.setIfInBounds_toArray, List.set_cons_zero, List.set_cons_succ])
                refine wpAnyH_done (by kernel_rfl) ?_ _
                refine NoPanic.normal ?_
                go_wp2_with fail
                go_ret2
                exact ⟨.inr ⟨HNO.out, rfl⟩, HB.out⟩
              · have g1 : (y == x) = false := beq_eq_false_iff_ne.2 hxy
                have HXY := Lib.hid hxy
                clear hxy
                go_upto_region 10 with fail
                refine wp_region_noPanic ?_
                refine wp_region_held_drew (S := (fun w' => w'.cell? ⟨b, off + j, none⟩ = some (.int .u32 y) ∧ w'.cell? ⟨b, off + k, none⟩ = some (.int .u32 x))) (by kernel_rfl) ?_ (fun hHeld => ?_)
                · ((try dsimp only); refine ⟨?_, ?_⟩ <;> (first | assumption | (go_keep; done)))
                refine wpAnyH_take (i := 0) (oi := ⟨some 30, _, _, _, _, _⟩) (v := ?_) rfl (by kernel_rfl) (by kernel_rfl) (by kernel_rfl) (fun _ _ _ h => False.elim h) (Or.inl ⟨by rfl, ?_⟩) (by assumption) ?_
                rotate_left
                · intro w hSw
                  (try dsimp only at hSw)
                  go_simp
                  all_goals with_reducible rfl
                (try simp only [Act.put, List.setIfInBounds_toArray, List.set_cons_zero, List.set_cons_succ])
                refine wpAnyH_take (i := 1) (oi := ⟨some 31, _, _, _, _, _⟩) (v := ?_) rfl (by kernel_rfl) (by kernel_rfl) (by kernel_rfl) (fun _ _ _ h => False.elim h) (Or.inl ⟨by rfl, ?_⟩) (by assumption) ?_
                rotate_left
                · intro w hSw
                  (try dsimp only at hSw)
                  go_simp
                  all_goals with_reducible rfl
                (try simp only [Act.put, List.setIfInBounds_toArray, List.set_cons_zero, List.set_cons_succ])
                refine wpAnyH_take (i := 2) (oi := ⟨some 32, _, _, _, _, _⟩) (v := ?_) rfl (by kernel_rfl) (by kernel_rfl) (by kernel_rfl) (fun _ _ _ h => False.elim h) (Or.inl ⟨by rfl, ?_⟩) (by assumption) ?_
                rotate_left
                · intro w hSw
                  (try dsimp only at hSw)
                  go_simp
                  all_goals with_reducible rfl
                (try simp only [Act.put, List.setIfInBounds_toArray, List.set_cons_zero, List.set_cons_succ])
                refine wpAnyH_take (i := 3) (oi := ⟨some 33, _, _, _, _, _⟩) (v := ?_) rfl (by kernel_rfl) (by kernel_rfl) (by kernel_rfl) (fun _ _ _ h => False.elim h) (Or.inl ⟨by rfl, ?_⟩) (by assumption) ?_
                rotate_left
                · intro w hSw
                  (try dsimp only at hSw)
                  go_simp
                  all_goals with_reducible rfl
                (try simp only [Act.put, List.setIfInBounds_toArray, List.set_cons_zero, List.set_cons_succ])
                refine wpAnyH_take (i := 4) (oi := ⟨some 34, _, _, _, _, _⟩) (v := ?_) rfl (by kernel_rfl) (by kernel_rfl) (by kernel_rfl) (fun _ _ _ h => False.elim h) (Or.inl ⟨by rfl, ?_⟩) (by assumption) ?_
                rotate_left
                · intro w hSw
                  (try dsimp only at hSw)
                  go_simp
                  all_goals with_reducible rfl
                (try simp only [Act.put, List.setIfInBounds_toArray, List.set_cons_zero, List.set_cons_succ])
                refine wpAnyH_take (i := 5) (oi := ⟨some 35, _, _, _, _, _⟩) (v := ?_) rfl (by kernel_rfl) (by kernel_rfl) (by kernel_rfl) (fun _ _ _ h => False.elim h) (Or.inl ⟨by rfl, ?_⟩) (by assumption) ?_
                rotate_left
                · intro w hSw
                  (try dsimp only at hSw)
                  go_simp
                  all_goals with_reducible rfl
                (try simp only [Act.put, List.setIfInBounds_toArray, List.set_cons_zero, List.set_cons_succ])
                refine wpAnyH_take (i := 6) (oi := ⟨some 36, _, _, _, _, _⟩) (v := ?_) rfl (by kernel_rfl) (by kernel_rfl) (by kernel_rfl) (fun _ _ _ h => False.elim h) (Or.inl ⟨by rfl, ?_⟩) (by assumption) ?_
                rotate_left
                · intro w hSw
                  (try dsimp only at hSw)
                  go_simp
                  all_goals with_reducible rfl
                (try simp only [Act.put, List.setIfInBounds_toArray, List.set_cons_zero, List.set_cons_succ])
                refine wpAnyH_take (i := 7) (oi := ⟨some 37, _, _, _, _, _⟩) (v := ?_) rfl (by kernel_rfl) (by kernel_rfl) (by kernel_rfl) (fun _ _ _ h => False.elim h) (Or.inl ⟨by rfl, ?_⟩) (by assumption) ?_
                rotate_left
                · intro w hSw
                  (try dsimp only at hSw)
                  go_simp
                  all_goals with_reducible rfl
                (try simp only [Act.put, List.setIfInBounds_toArray, List.set_cons_zero, List.set_cons_succ])
                refine wpAnyH_take (i := 8) (oi := ⟨some 38, _, _, _, _, _⟩) (v := ?_) rfl (by kernel_rfl) (by kernel_rfl) (by kernel_rfl) (fun _ _ _ h => False.elim h) (Or.inl ⟨by rfl, ?_⟩) (by assumption) ?_
                rotate_left
                · intro w hSw
                  (try dsimp only at hSw)
                  go_simp
                  all_goals with_reducible rfl
                (try simp only [Act.put, List.setIfInBounds_toArray, List.set_cons_zero, List.set_cons_succ])
                refine wpAnyH_done (by kernel_rfl) ?_ _
                refine NoPanic.normal ?_
                go_wp2_with fail
                go_roundw
                case rel =>
                  refine ⟨j + 1, by omega, by go_num, fun i hi => ?_, HB2.out.drew⟩
                  rcases Nat.lt_or_ge i j with h1 | h1
                  · exact HNE.out i h1
                  · obtain rfl : i = j := by omega
                    rw [HY.out]; exact HXY.out
                case measure => simp [intOf]; omega
            · obtain rfl : j = k := by omega
              have hjk2 : ¬ ((j : Int) < (j : Int)) := by omega
              by_cases hxz : x = 0
              · have HNO : Hid (¬ SpOk n (atL xs)) := Lib.hid (fun h => h.2.2.1 j hlt (by rw [HX.out]; exact hxz))
                have HB := HBT
                subst hxz
                go_wp2_with fail
                go_ret2
                exact ⟨.inr ⟨HNO.out, rfl⟩, HB.out⟩
              · have g1 : (x == 0) = false := beq_eq_false_iff_ne.2 hxz
                have HXZ := Lib.hid hxz
                have hwv : IntKind.u64.wrap x = x := IntWalk.u64_in _ (by omega)
                have hput := rput_own A' (1 + 4 * j) c' (spPre n (atL xs) j) x 4 wr (HRK.out.below HB2.out) HZ.out (by omega) hx0 (by omega)
                have e4 : putMany 4 = 4 := by decide
                rw [e4] at hput
                have HPUT := Lib.hid hput
                clear hxz hput e4
                go_wp2_with fail
                refine HPUT.out.mono ?_; rintro e w3 ⟨A3, c3, m3, hm3, rfl, ho3, hB3⟩
                have hl3 : m3 = 1 + 4 * (j + 1) := by rw [← hm3, List.length_append, be_length, spPre_length]; omega
                subst hl3
                have hb3 : ∀ y ∈ spPre n (atL xs) j ++ be x 4, 0 ≤ y ∧ y ≤ 255 := fun y hy => by
                  rcases List.mem_append.1 hy with h | h
                  · exact spPre_byte n _ (by omega) j y h
                  · exact be_byte _ _ y h
                obtain ⟨A4, c4, e4, hr4, hz4, hc4⟩ := rd_own_any ho3 hb3 (by omega)
                injection e4 with e41 _ e42
                subst e41 e42
                have HR4 : Hid (Rd w3 .u8 A3 (1 + 4 * (j + 1)) (spPre n (atL xs) (j + 1))) := Lib.hid (by rw [spPre, HX.out]; exact hr4)
                have HZ4 := Lib.hid hz4
                have HC4 := Lib.hid hc4
                have HB4 := Lib.hid (HBT.out.trans (hB3.mono HBT.out.size))
                clear hm3 ho3 hB3 hb3 hr4 hz4 hc4
                go_wp2_with fail
                go_roundw
                case rel =>
                  refine ⟨j + 1, A3, c3, by omega, by go_num, rfl, HR4.out, HZ4.out, HC4.out, fun i hi => ?_, fun i i' h1 h2 => ?_, HB4.out⟩
                  · rcases Nat.lt_or_ge i j with h1 | h1
                    · exact HNZ.out i h1
                    · obtain rfl : i = j := by omega
                      rw [HX.out]; exact HXZ.out
                  · rcases Nat.lt_or_ge i' j with h3 | h3
                    · exact HUN.out i i' h1 h3
                    · obtain rfl : i' = j := by omega
                      rw [HX.out]; exact HNE.out i h1
                case measure => simp [intOf]; omega
        · obtain rfl : k = n := by omega
          have HOK : Hid (SpOk k (atL xs)) := Lib.hid ⟨hn14.1, hn14.2, HNZ.out, HUN.out⟩
          go_wp2_with fail
          go_ret2
          exact ⟨.inl ⟨HOK.out, A', c', rfl, HRK.out, HZ.out, HC.out⟩, HB1.out⟩
end Go.Proofs.YtgecfcdafbedaaaGreatDoor
