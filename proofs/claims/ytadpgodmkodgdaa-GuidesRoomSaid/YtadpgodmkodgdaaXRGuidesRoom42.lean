/- A table of guides: Put. -/
import Derived.Test.YtadpgodmkodgdaaXRGuidesRoom41
namespace Go.Proofs.Ytadpgodmkodgdaa
open Go.RowKit
set_option linter.unusedSimpArgs false
set_option linter.unusedVariables false

/-- What Put tells, and what it leaves. -/
def PutIs (a : List Gd) (tag : List Int) (s k E : Int) (a' : List Gd) : Prop :=
  ((s = 0 ∨ k < 1 ∨ 256 < k) ∧ E = 1 ∧ a' = a) ∨
  (¬ (s = 0 ∨ k < 1 ∨ 256 < k) ∧ E = 6 ∧ a' = a ∧ ¬ ((∃ e ∈ a, isTag tag e = true) ∨ ∃ e ∈ a, free e = true)) ∨
  (¬ (s = 0 ∨ k < 1 ∨ 256 < k) ∧ E = 0 ∧ ∃ (i : Nat) (x : Gd), a[i]? = some x ∧ (isTag tag x = true ∨ (free x = true ∧ ¬ ∃ e ∈ a, isTag tag e = true)) ∧ a' = a.set i ⟨tag, s, k⟩)

set_option maxRecDepth 100000 in
set_option maxHeartbeats 4000000 in
theorem put_tab (T : Nat) (a : List Gd) (tag : List Int) (s k : Int) (w : World) (hT : TabAt w T a) (hok : TabOk a) (hg : tag.length = 16) :
    Calls Try.prog 8 #[.pointer (some ⟨T, 0, none⟩), .agg (tag.map (Value.int .u8)).toArray, .int .u32 s, .int .u32 k] w fun e w' => ∃ E a', e = .returned (.int .i64 E) ∧ PutIs a tag s k E a' ∧ TabAt w' T a' ∧ Keeps (· = T) w w' := by
  have HP := Lib.hid (fun W (hB : Below w.heap.size w W) => place_any T a tag W (hT.below hB) hok hg)
  have hsz : (Try.prog.info? 23).map (·.size) = some (tag.map (Value.int .u8)).length := by rw [List.length_map, hg]; kernel_rfl
  have hu : Try.prog.underlying 23 = some (.array 16 5) := Try.underlying23
  have hk := Blk.new w 23 (tag.map (Value.int .u8))
  have hbx := hk.range
  have hXl := hk.lt
  have hBn := new_belowG w (.cells (tag.map (Value.int .u8)).toArray 23)
  have HT1 := Lib.hid (hT.below hBn)
  have HTX : Hid (w.heap.size ≠ T) := Lib.hid (by have := hT.blk.lt; omega)
  have hbld := run_build_gd tag s k hg
  have hY : ∃ Y, gdC ⟨tag, s, k⟩ = Y := ⟨_, rfl⟩
  have HG : Hid (tag.length = 16) := Lib.hid hg
  obtain ⟨Y, hY⟩ := hY
  obtain ⟨L, hL⟩ : ∃ L, tag.map (Value.int .u8) = L := ⟨_, rfl⟩
  rw [hL] at HP hsz hbx hBn HT1 hXl hbld ⊢
  rw [hY] at hbld
  have HSZ := Lib.hid hsz
  have HU := Lib.hid hu
  have HBX := Lib.hid hbx
  have HBN := Lib.hid hBn
  have HBLD := Lib.hid hbld
  have HXL := Lib.hid hXl
  have HY := Lib.hid hY
  clear hsz hu hk hbx hXl hBn hbld hY hL hT hok hg
  by_cases hbad : s = 0 ∨ k < 1 ∨ 256 < k
  · have hor : (s = 0) ∨ (¬ s = 0 ∧ k < 1) ∨ (¬ s = 0 ∧ ¬ k < 1 ∧ 256 < k) := by omega
    clear hbad
    rcases hor with rfl | ⟨h1, h2⟩ | ⟨h1, h2, h3⟩
    all_goals
      go_enter Try.func8, Try.ntmps8
      go_wp2_with fail
      refine (there_yes HT1.out).mono ?_; rintro e w1 ⟨rfl, rfl⟩
      go_wp2_with fail
      go_ret
      exact ⟨1, a, rfl, .inl ⟨by omega, rfl, rfl⟩, HT1.out, Keeps.of_below HBN.out⟩
  · have h1 : ¬ s = 0 := by omega
    have h2 : ¬ k < 1 := by omega
    have h3 : ¬ 256 < k := by omega
    have b1 : (s == 0) = false := by simpa using h1
    have b2 : decide (k < 1) = false := decide_eq_false h2
    have b3 : decide (256 < k) = false := decide_eq_false h3
    clear hbad
    go_enter Try.func8, Try.ntmps8
    go_wp2_with fail
    refine (there_yes HT1.out).mono ?_; rintro e w1 ⟨rfl, rfl⟩
    go_wp2_with (refine wpList_load_mid rfl 23 _ rfl w.heap.size 0 rfl L _ HBX.out HU.out rfl HSZ.out ?_)
    refine (HP.out _ HBN.out).mono ?_; rintro e w2 ⟨r, is, rfl, hr, hB2⟩
    have HK2 := Lib.hid (Keeps.of_below (M := (· = T)) (HBN.out.trans (hB2.mono HBN.out.size)))
    have HT2 := Lib.hid (HT1.out.below hB2)
    have hX2 : w2.rangeAt w.heap.size 0 L := fun j v hv => (hB2.cell (p := ⟨w.heap.size, 0 + j, none⟩) HXL.out).trans (HBX.out j v hv)
    have HX2 := Lib.hid hX2
    clear hB2 hX2
    rcases place_none hr with ⟨h4, rfl, rfl, h5⟩ | ⟨i, x, rfl, h8, hx, hq⟩
    · clear hr
      go_wp2_with fail
      go_ret
      exact ⟨6, a, rfl, .inr (.inl ⟨by omega, rfl, rfl, h5⟩), HT2.out, HK2.out⟩
    · have hge : ¬ (i : Int) < 0 := by omega
      have i0 : (0 : Int) ≤ (i : Int) := by omega
      have i1 : (i : Int) < 8 := by omega
      have HQ : Hid (isTag tag x = true ∨ (free x = true ∧ ¬ ∃ e ∈ a, isTag tag e = true)) := Lib.hid (by
        rcases hq with ⟨_, h⟩ | ⟨_, h⟩
        · exact .inl h
        · exact .inr h)
      have HXI := Lib.hid hx
      have hth : w2.drew.there T (i * 18) Y.toArray.size := by
        have := HT2.out.there (n := 18) h8 rfl (Nat.le_refl _)
        have hl : Y.toArray.size = 18 := by rw [← HY.out]; simpa using gdC_length (e := ⟨tag, s, k⟩) HG.out
        rw [hl]
        exact this
      have hszY : (Try.prog.info? 60).map (·.size) = some Y.toArray.size := by
        have hl : Y.toArray.size = 18 := by rw [← HY.out]; simpa using gdC_length (e := ⟨tag, s, k⟩) HG.out
        rw [hl]; exact size_guided
      have hY1 : Y.toArray.all (·.oneCell') = true := all_oneCell_toArray (by rw [← HY.out]; exact gdC_one _)
      have hX3 : (w2.drew.setCells T (i * 18) Y.toArray.toList).rangeAt w.heap.size 0 L := World.rangeAt_setCells_apart (w := w2.drew) HX2.out T (i * 18) _ (.inl HTX.out)
      have HTH := Lib.hid hth
      have HSZY := Lib.hid hszY
      have HY1 := Lib.hid hY1
      have HX3 := Lib.hid hX3
      have hX2 := HX2.out
      have HTF : Hid (TabAt (w2.drew.setCells T (i * 18) Y.toArray.toList) T (a.set i ⟨tag, s, k⟩)) := Lib.hid (by
        have ht2 := HT2.out.drew
        have := ht2.put (e' := ⟨tag, s, k⟩) (o := i * 18) hx HG.out rfl
        rw [HY.out] at this
        exact this)
      have HKF : Hid (Keeps (· = T) w (w2.drew.setCells T (i * 18) Y.toArray.toList)) := Lib.hid (HK2.out.drew.trans (Keeps.setCells _ _ _))
      clear hr hx hq hth hszY hY1 hX3
      go_wp2_with fail
      refine wp_region_noPanic ?_
      refine wp_region_held_drew (S := (fun w' => w'.rangeAt w.heap.size 0 L)) (by kernel_rfl) ?_ (fun hHeld => ?_)
      · ((try dsimp only) <;> (first | assumption | (go_keep; done)))
      refine wpAnyH_take (i := 0) (oi := ⟨some 34, _, _, _, _, _⟩) (v := ?_) rfl (by kernel_rfl) (by kernel_rfl) (by kernel_rfl) (fun _ _ _ h => False.elim h) (Or.inl ⟨by rfl, ?_⟩) (by assumption) ?_
      rotate_left
      · intro w hSw
        (try dsimp only at hSw)
        go_simp
        all_goals with_reducible rfl
      (try simp only [Act.put, List.setIfInBounds_toArray, List.set_cons_zero, List.set_cons_succ])
      refine wpAnyH_take (i := 1) (oi := ⟨some 35, _, _, _, _, _⟩) (v := ?_) rfl (by kernel_rfl) (by kernel_rfl) (by kernel_rfl) (fun _ _ _ h => False.elim h) (Or.inl ⟨by rfl, ?_⟩) (by assumption) ?_
      rotate_left
      · intro w hSw
        (try dsimp only at hSw)
        go_simp
        all_goals with_reducible rfl
      (try simp only [Act.put, List.setIfInBounds_toArray, List.set_cons_zero, List.set_cons_succ])
      refine wpAnyH_take (i := 2) (oi := ⟨some 36, _, _, _, _, _⟩) (v := .agg L.toArray) rfl (by kernel_rfl) (by kernel_rfl) (by kernel_rfl) (fun _ _ _ h => False.elim h) ?_ (by assumption) ?_
      · refine yieldsIf_load_mid ?_ 23 _ rfl w.heap.size 0 rfl L _ ?_ HU.out rfl HSZ.out
        · rfl
        · (intro w hSw; (try dsimp only at hSw); go_split_ands; assumption)
      (try simp only [Act.put, List.setIfInBounds_toArray, List.set_cons_zero, List.set_cons_succ])
      refine wpAnyH_take (i := 3) (oi := ⟨some 37, _, _, _, _, _⟩) (v := ?_) rfl (by kernel_rfl) (by kernel_rfl) (by kernel_rfl) (fun _ _ _ h => False.elim h) (Or.inl ⟨by rfl, ?_⟩) (by assumption) ?_
      rotate_left
      · intro w hSw
        (try dsimp only at hSw)
        go_simp
        all_goals with_reducible rfl
      (try simp only [Act.put, List.setIfInBounds_toArray, List.set_cons_zero, List.set_cons_succ])
      refine wpAnyH_take (i := 4) (oi := ⟨some 38, _, _, _, _, _⟩) (v := ?_) rfl (by kernel_rfl) (by kernel_rfl) (by kernel_rfl) (fun _ _ _ h => False.elim h) (Or.inl ⟨by rfl, ?_⟩) (by assumption) ?_
      rotate_left
      · intro w hSw
        (try dsimp only at hSw)
        go_simp
        all_goals with_reducible rfl
      (try simp only [Act.put, List.setIfInBounds_toArray, List.set_cons_zero, List.set_cons_succ])
      refine wpAnyH_take (i := 5) (oi := ⟨some 39, _, _, _, _, _⟩) (v := .agg Y.toArray) rfl (by kernel_rfl) (by kernel_rfl) (by kernel_rfl) (fun _ _ _ h => False.elim h) ?_ (by assumption) ?_
      · exact yieldsIf_build (by rfl) 60 _ rfl _ (fun W => by simpa [Act.eval] using HBLD.out W)
      (try simp only [Act.put, List.setIfInBounds_toArray, List.set_cons_zero, List.set_cons_succ])
      refine wpAnyH_take (i := 6) (oi := ⟨some 40, _, _, _, _, _⟩) (v := ?_) rfl (by kernel_rfl) (by kernel_rfl) (by kernel_rfl) (fun _ _ _ h => False.elim h) (Or.inl ⟨by rfl, ?_⟩) (by assumption) ?_
      rotate_left
      · intro w hSw
        (try dsimp only at hSw)
        go_simp
        all_goals with_reducible rfl
      (try simp only [Act.put, List.setIfInBounds_toArray, List.set_cons_zero, List.set_cons_succ])
      refine wpAnyH_take (i := 7) (oi := ⟨some 41, _, _, _, _, _⟩) (v := ?_) rfl (by kernel_rfl) (by kernel_rfl) (by kernel_rfl) (fun _ _ _ h => False.elim h) (Or.inl ⟨by rfl, ?_⟩) (by assumption) ?_
      rotate_left
      · intro w hSw
        (try dsimp only at hSw)
        go_simp
        all_goals with_reducible rfl
      (try simp only [Act.put, List.setIfInBounds_toArray, List.set_cons_zero, List.set_cons_succ])
      refine wpAnyH_take (i := 8) (oi := ⟨some 42, _, _, _, _, _⟩) (v := ?_) rfl (by kernel_rfl) (by kernel_rfl) (by kernel_rfl) (fun _ _ _ h => False.elim h) (Or.inl ⟨by rfl, ?_⟩) (by assumption) ?_
      rotate_left
      · intro w hSw
        (try dsimp only at hSw)
        go_simp
        all_goals with_reducible rfl
      (try simp only [Act.put, List.setIfInBounds_toArray, List.set_cons_zero, List.set_cons_succ])
      refine wpAnyH_ready (rs := [9]) (by kernel_rfl) (by simp) ?_
      refine AllReadyH.cons (o := ⟨none, _, _, _, _, _⟩) rfl (fun K hK => ?_) AllReadyH.nil
      (refine step_store_mid rfl 60 _ _ rfl T (i * 18) Y.toArray rfl rfl HTH.out HSZY.out HY1.out ?_; have hX3 := HX3.out)
      refine hK.out _ _ ?_ (fun hHeld => ?_)
      · ((try dsimp only) <;> (first | assumption | (go_keep; done)))
      clear hK K
      (try simp only [Act.put, List.setIfInBounds_toArray, List.set_cons_zero, List.set_cons_succ])
      refine wpAnyH_done (by kernel_rfl) ?_ _
      refine NoPanic.normal ?_
      go_wp2_with fail
      go_ret
      first
        | exact ⟨0, _, rfl, .inr (.inr ⟨by omega, rfl, i, x, HXI.out, HQ.out, rfl⟩), HTF.out, HKF.out⟩
        | exact ⟨0, rfl, _, .inr (.inr ⟨by omega, rfl, i, x, HXI.out, HQ.out, rfl⟩), HTF.out, HKF.out⟩
end Go.Proofs.Ytadpgodmkodgdaa
