/- lives of the packets' laws: it answers true. -/
import Derived.Test.YtjikjdignhdipaaGreatDoorYRPacketsGet16
import Derived.Test.YtjikjdignhdipaaGreatDoorYRPacketsGet19
namespace Go.Proofs.YtjikjdignhdipaaGreatDoor
open Go.RowKit
set_option linter.unusedSimpArgs false
set_option linter.unusedVariables false

theorem zer16_b : isB zer16 := fun x hx => by have := List.eq_of_mem_replicate hx; omega
theorem put_hello (w : World) : Calls Tryz.prog 8 #[.agg (pktC 1 zer16 zer16 (.slice none 0 0)).toArray] w fun e w' => ∃ g, e = .returned (.tuple #[.slice (some ⟨g, 0, none⟩) 40 40, .int .i64 0]) ∧ Rd w' .u8 (some ⟨g, 0, none⟩) 40 (pkB 1 zer16 zer16 []) ∧ Below w.heap.size w w' := by
  refine (pkput_any 1 zer16 zer16 [] none 0 0 w (ps_nil w) rfl rfl zer16_b zer16_b (by omega)).mono ?_
  rintro e w' (⟨hne, _⟩ | ⟨g, L, h0, hL, rfl, hg, hr, hB⟩)
  · exact absurd (by decide) hne
  · have : L = 40 := by rw [← hL]; rfl
    subst this
    exact ⟨g, rfl, hr, hB⟩
theorem put_data (w : World) : Calls Tryz.prog 8 #[.agg (pktC 9 zer16 zer16 (.slice none 0 0)).toArray] w fun e w' => e = .returned (.tuple #[.slice none 0 0, .int .i64 1]) ∧ Below w.heap.size w w' := by
  refine (pkput_any 9 zer16 zer16 [] none 0 0 w (ps_nil w) rfl rfl zer16_b zer16_b (by omega)).mono ?_
  rintro e w' (⟨hne, rfl, hB⟩ | ⟨g, L, h0, _⟩)
  · exact ⟨rfl, hB⟩
  · exact absurd h0 (by decide)
theorem get_short (w : World) (g : Nat) (h : Rd w .u8 (some ⟨g, 0, none⟩) 39 (List.replicate 39 0)) : Calls Tryz.prog 16 #[.slice (some ⟨g, 0, none⟩) 39 39] w fun e w' => e = .returned (.tuple #[.agg zPkt.toArray, .int .i64 5]) ∧ Below w.heap.size w w' := by
  refine (pkget_any (some ⟨g, 0, none⟩) 39 39 _ w h (Nat.le_refl _) (fun e => by cases e)).mono ?_
  have e5 : pkGetE (List.replicate 39 0) = 5 := by decide +kernel
  rintro e w' (⟨hne, rfl, hB⟩ | ⟨A, n, h0, _⟩)
  · rw [e5]; exact ⟨rfl, hB⟩
  · rw [e5] at h0; cases h0
theorem get_hello (w : World) (g : Nat) (h : Rd w .u8 (some ⟨g, 0, none⟩) 40 (pkB 1 zer16 zer16 [])) : Calls Tryz.prog 16 #[.slice (some ⟨g, 0, none⟩) 40 40] w fun e w' => ∃ A, e = .returned (.tuple #[.agg (pktC 1 zer16 zer16 (.slice A 0 0)).toArray, .int .i64 0]) ∧ Below w.heap.size w w' := by
  refine (pkget_any (some ⟨g, 0, none⟩) 40 40 _ w h (Nat.le_refl _) (fun e => by cases e)).mono ?_
  have e0 : pkGetE (pkB 1 zer16 zer16 []) = 0 := by decide +kernel
  have ep : (paGet ((pkB 1 zer16 zer16 []).drop 40)).2.length = 0 := by decide +kernel
  have ek : (pkB 1 zer16 zer16 [])[1]?.getD 0 = 1 := rfl
  have ef : ((pkB 1 zer16 zer16 []).drop 8).take 16 = zer16 := rfl
  have et : ((pkB 1 zer16 zer16 []).drop 24).take 16 = zer16 := rfl
  rintro e w' (⟨hne, _⟩ | ⟨A, n, h0, hn, rfl, _, _, hB⟩)
  · exact absurd e0 hne
  · rw [ep] at hn
    subst hn
    rw [ek, ef, et]
    exact ⟨A, rfl, hB⟩
theorem hello_cells {w : World} {g : Nat} (h : Rd w .u8 (some ⟨g, 0, none⟩) 40 (pkB 1 zer16 zer16 [])) : w.cell? ⟨g, 0, none⟩ = some (.int .u8 1) ∧ w.cell? ⟨g, 1, none⟩ = some (.int .u8 1) ∧ w.cell? ⟨g, 3, none⟩ = some (.int .u8 40) ∧ g < w.heap.size := by
  obtain ⟨b, off, e, hb, hc⟩ := h.row (by omega)
  injection e with e
  injection e with e1 e2
  subst e1 e2
  have h0 := hc 0 (by omega)
  have h1 := hc 1 (by omega)
  have h3 := hc 3 (by omega)
  simp only [Nat.zero_add] at h0 h1 h3
  exact ⟨h0, h1, h3, hb⟩
theorem info_pktZ : (Tryz.prog.info? 27).map (fun i => i.zero) = some (some (.agg zPkt.toArray)) := by kernel_rfl

set_option maxRecDepth 100000 in
set_option maxHeartbeats 4000000 in
theorem lives_true (w : World) : Calls Tryz.prog 6 #[] w fun e w' => e = .returned (.bool true) ∧ Below w.heap.size w w' := by
  obtain ⟨P1, hP1⟩ : ∃ P1, (pktC 1 zer16 zer16 (.slice none 0 0)).toArray = P1 := ⟨_, rfl⟩
  obtain ⟨P9, hP9⟩ : ∃ P9, (pktC 9 zer16 zer16 (.slice none 0 0)).toArray = P9 := ⟨_, rfl⟩
  obtain ⟨Z, hZ⟩ : ∃ Z, zPkt = Z := ⟨_, rfl⟩
  have hb1 : ∀ W : World, Calls Tryz.prog 8 #[.agg P1] W fun e w' => ∃ g, e = .returned (.tuple #[.slice (some ⟨g, 0, none⟩) 40 40, .int .i64 0]) ∧ Rd w' .u8 (some ⟨g, 0, none⟩) 40 (pkB 1 zer16 zer16 []) ∧ Below W.heap.size W w' := fun W => hP1 ▸ put_hello W
  have hb9 : ∀ W : World, Calls Tryz.prog 8 #[.agg P9] W fun e w' => e = .returned (.tuple #[.slice none 0 0, .int .i64 1]) ∧ Below W.heap.size W w' := fun W => hP9 ▸ put_data W
  have hgs : ∀ (W : World) (g : Nat), Rd W .u8 (some ⟨g, 0, none⟩) 39 (List.replicate 39 0) → Calls Tryz.prog 16 #[.slice (some ⟨g, 0, none⟩) 39 39] W fun e w' => e = .returned (.tuple #[.agg Z.toArray, .int .i64 5]) ∧ Below W.heap.size W w' := fun W g h => hZ ▸ get_short W g h
  have hZl : Z.length = 34 := by rw [← hZ]; exact pktC_length rfl rfl
  have hZ1 : ∀ v ∈ Z, v.oneCell' = true := by rw [← hZ]; exact pktC_one
  have hsz : (Tryz.prog.info? 27).map (·.size) = some Z.length := by rw [hZl]; exact info_pkt
  obtain ⟨zs, hzs⟩ : ∃ zs : List Value, List.replicate 39 (Value.int .u8 0) = zs := ⟨_, rfl⟩
  have hmk : ∀ W : World, (Instr.makeSlice 31 (.int .i64 39) (.int .i64 39)).run Tryz.prog W = .ok (.slice (some ⟨W.heap.size, 0, none⟩) 39 39) (W.alloc (.cells zs.toArray 5)) := by
    intro W
    rw [← hzs, ← made_rep]
    exact run_make_row' 31 5 (.int .u8 0) 1 Tryz.underlying31 (by kernel_rfl) rfl .i64 .i64 39 (by omega) (by omega) W
  have hzr : ∀ W : World, Rd (W.alloc (.cells zs.toArray 5)) .u8 (some ⟨W.heap.size, 0, none⟩) 39 (List.replicate 39 0) := fun W => by
    have := rd_lit W (List.replicate 39 0) 39 (by intro x hx; have := List.eq_of_mem_replicate hx; omega) (by simp) (by omega)
    rwa [List.map_replicate, hzs] at this
  have HP1 := Lib.hid hP1
  have HP9 := Lib.hid hP9
  have H1 := Lib.hid hb1
  have H9 := Lib.hid hb9
  have HGS := Lib.hid hgs
  have HZ := Lib.hid hZ
  have HZ1 := Lib.hid hZ1
  have HSZ := Lib.hid hsz
  have HZR := Lib.hid hzr
  clear hP1 hP9 hb1 hb9 hgs hZ hZl hZ1 hsz hzs hzr
  go_enter Tryz.func6, Tryz.ntmps6
  go_wp2_with (refine wpList_value (o := ⟨some 10, .build 27 _, _, _, _, _⟩) (v := .agg (pktC 1 zer16 zer16 (.slice none 0 0)).toArray) (w' := w) rfl (by kernel_rfl) ?_; rw [HP1.out])
  refine (H1.out w).mono ?_; rintro e w1 ⟨g, rfl, hr1, hB1⟩
  have HR1 := Lib.hid hr1
  have HB1 := Lib.hid hB1
  clear hr1 hB1
  go_wp2_with fail
  refine (HGS.out _ _ (HZR.out w1)).mono ?_; rintro e w3 ⟨rfl, hB3⟩
  have HB3 := Lib.hid ((new_below w1 (.cells zs.toArray 5)).trans (hB3.mono (new_below w1 (.cells zs.toArray 5)).size))
  have HK4 : Hid (Blk (w3.alloc (.cells Z.toArray 27)) w3.heap.size 27 Z) := Lib.hid (Blk.new w3 27 Z)
  clear hB3
  go_wp2_with (first
    | (refine wpList_value (o := ⟨some 3, .alloc 27, _, _, _, _⟩) (v := .pointer (some ⟨w3.heap.size, 0, none⟩)) (w' := w3.alloc (.cells zPkt.toArray 27)) rfl (by kernel_rfl) ?_; rw [HZ.out])
    | (refine wpList_store_mid rfl 27 _ _ rfl w3.heap.size 0 Z.toArray rfl rfl (HK4.out.there 0 _ (by simp)) (by simpa using HSZ.out) (all_oneCell_toArray HZ1.out) ?_)
    | (refine wpList_value (o := ⟨some 20, .build 27 _, _, _, _, _⟩) (v := .agg (pktC 9 zer16 zer16 (.slice none 0 0)).toArray) (w' := (w3.alloc (.cells Z.toArray 27)).setCells w3.heap.size 0 Z) rfl (by kernel_rfl) ?_; rw [HP9.out]))
  have HB4 : Hid (Below w1.heap.size w1 ((w3.alloc (.cells Z.toArray 27)).setCells w3.heap.size 0 Z)) := Lib.hid (below_keeps (HB3.out.alloc HB3.out.size _) (Keeps.setCells (g := w3.heap.size) Z 0 _) (Nat.le_refl _) (fun i hi => by subst hi; exact HB3.out.size))
  generalize (w3.alloc (.cells Z.toArray 27)).setCells w3.heap.size 0 Z = w4 at *
  clear HK4 HB3 HGS hmk HZR
  refine (H9.out w4).mono ?_; rintro e w5 ⟨rfl, hB5⟩
  have HB5 := Lib.hid (HB4.out.trans (hB5.mono HB4.out.size))
  clear hB5 HB4
  go_wp2_with fail
  have HR5 := Lib.hid (HR1.out.below HB5.out)
  refine (get_hello w5 g HR5.out).mono ?_; rintro e w6 ⟨A6, rfl, hB6⟩
  have HR6 := Lib.hid (HR5.out.below hB6)
  have HB6 := Lib.hid (HB5.out.trans (hB6.mono HB5.out.size))
  clear hB6
  obtain ⟨Y, hY⟩ : ∃ Y, pktC 1 zer16 zer16 (.slice A6 0 0) = Y := ⟨_, rfl⟩
  have HY1 : Hid (∀ v ∈ Y, v.oneCell' = true) := Lib.hid (by rw [← hY]; exact pktC_one)
  have hYl : Y.length = Z.length := by rw [← hY, ← HZ.out]; rfl
  have HYL := Lib.hid hYl
  have HY0 : Hid (Y[0]? = some (.int .u8 1)) := Lib.hid (by rw [← hY]; rfl)
  rw [hY]
  have HK6 : Hid (Blk (w6.alloc (.cells Z.toArray 27)) w6.heap.size 27 Z) := Lib.hid (Blk.new w6 27 Z)
  have HK7 : Hid (Blk ((w6.alloc (.cells Z.toArray 27)).setCells w6.heap.size 0 Y) w6.heap.size 27 Y) := Lib.hid (by
    have := Blk.setCells Y 0 _ _ HK6.out (by omega)
    rwa [splice_whole _ _ hYl] at this)
  have HB7 : Hid (Below w6.heap.size w6 ((w6.alloc (.cells Z.toArray 27)).setCells w6.heap.size 0 Y)) := Lib.hid (below_keeps (new_below w6 _) (Keeps.setCells (g := w6.heap.size) Y 0 _) (Nat.le_refl _) (fun i hi => by subst hi; exact Nat.le_refl _))
  have hr8 := (HR6.out.below HB7.out).below (new_below _ (.cells #[.int .u8 0, .int .u8 1, .int .u8 242, .int .u8 3, .int .u8 244, .int .u8 245, .int .u8 246, .int .u8 247] 5))
  obtain ⟨hc0, hc1, hc3, hgl⟩ := hello_cells hr8
  have hc7 : (((w6.alloc (.cells Z.toArray 27)).setCells w6.heap.size 0 Y).alloc (.cells #[.int .u8 0, .int .u8 1, .int .u8 242, .int .u8 3, .int .u8 244, .int .u8 245, .int .u8 246, .int .u8 247] 5)).cell? ⟨w6.heap.size, 0, none⟩ = some (.int .u8 1) := ((HK7.out.alloc _).cell 0).trans HY0.out
  have hcn := check_any none 0 0 [] ((w6.alloc (.cells Z.toArray 27)).setCells w6.heap.size 0 Y) (rd_nil _ _) (Nat.le_refl _)
  rw [show chk [] = 65535 by decide] at hcn
  have hcb := check_any (some ⟨((w6.alloc (.cells Z.toArray 27)).setCells w6.heap.size 0 Y).heap.size, 0, none⟩) 8 8 [0, 1, 242, 3, 244, 245, 246, 247] (((w6.alloc (.cells Z.toArray 27)).setCells w6.heap.size 0 Y).alloc (.cells #[.int .u8 0, .int .u8 1, .int .u8 242, .int .u8 3, .int .u8 244, .int .u8 245, .int .u8 246, .int .u8 247] 5)) (rd_lit _ [0, 1, 242, 3, 244, 245, 246, 247] 8 (by intro x hx; simp at hx; omega) rfl (by omega)) (Nat.le_refl _)
  rw [show chk [0, 1, 242, 3, 244, 245, 246, 247] = 8717 by decide] at hcb
  have HCN := Lib.hid hcn
  have HCB := Lib.hid hcb
  have HBF : Hid (Below w.heap.size w (((w6.alloc (.cells Z.toArray 27)).setCells w6.heap.size 0 Y).alloc (.cells #[.int .u8 0, .int .u8 1, .int .u8 242, .int .u8 3, .int .u8 244, .int .u8 245, .int .u8 246, .int .u8 247] 5))) := Lib.hid (by
    have h1 : Below w.heap.size w w6 := HB1.out.trans (HB6.out.mono HB1.out.size)
    have h2 := h1.trans (HB7.out.mono h1.size)
    exact h2.alloc h2.size _)
  clear hcn hcb hY hYl hr8 hgl
  go_wp2_with (first
    | (refine wpList_value (o := ⟨some 7, .alloc 27, _, _, _, _⟩) (v := .pointer (some ⟨w6.heap.size, 0, none⟩)) (w' := w6.alloc (.cells zPkt.toArray 27)) rfl (by kernel_rfl) ?_; rw [HZ.out])
    | (refine wpList_store_mid rfl 27 _ _ rfl w6.heap.size 0 Y.toArray rfl rfl (HK6.out.there 0 _ (by simp [HYL.out])) (by simpa [HYL.out] using HSZ.out) (all_oneCell_toArray HY1.out) ?_; rw [show Y.toArray.toList = Y from rfl]))
  refine HCN.out.mono ?_; rintro e w8 ⟨rfl, rfl⟩
  go_wp2_with fail
  refine HCB.out.mono ?_; rintro e w9 ⟨rfl, rfl⟩
  go_wp2_with fail
  go_ret
  exact ⟨rfl, HBF.out⟩
end Go.Proofs.YtjikjdignhdipaaGreatDoor
