/- A new table; A table of guides: Len. -/
import Derived.Test.YtadpgodmkodgdaaXRGuidesRoom41
namespace Go.Proofs.Ytadpgodmkodgdaa
open Go.RowKit
set_option linter.unusedSimpArgs false
set_option linter.unusedVariables false

/-- A new table's places. -/
def eightG : List Gd := List.replicate 8 ⟨List.replicate 16 0, 0, 0⟩
set_option maxRecDepth 100000 in
theorem new_any (w : World) : Calls Try.prog 7 #[] w fun e w' => e = .returned (.pointer (some ⟨w.heap.size, 0, none⟩)) ∧ w' = w.alloc (.cells (tabC eightG).toArray 63) := by
  have hb : ∀ W, (Instr.build 63 #[(1, .int .i64 1)]).run Try.prog W = .ok (.agg (tabC eightG).toArray) W := fun W => by kernel_rfl
  obtain ⟨Z, hZ⟩ : ∃ Z, tabC eightG = Z := ⟨_, rfl⟩
  rw [hZ] at hb ⊢
  have HB := Lib.hid hb
  clear hb hZ
  go_enter Try.func7, Try.ntmps7
  go_wp2_with (refine wpList_value (o := ⟨some 1, .build 63 _, _, _, _, _⟩) (v := .agg Z.toArray) (w' := w) rfl (by unfold execOp; simp only [Act.eval, Act.put]; simp [HB.out]) ?_)
  go_ret
  exact ⟨rfl, rfl⟩
theorem TabAt.new (w : World) : TabAt (w.alloc (.cells (tabC eightG).toArray 63)) w.heap.size eightG :=
  ⟨Blk.new w 63 _, rfl, fun e he => by rw [List.eq_of_mem_replicate he]; rfl⟩
theorem alike_new : Alike eightG [] := by
  refine ⟨rfl, fun e he => ?_, ?_, by simp⟩
  · rw [List.eq_of_mem_replicate he]; simp
  · have : taken eightG = [] := by
      rw [taken, List.filter_eq_nil_iff]
      intro e he
      rw [List.eq_of_mem_replicate he]
      simp [Gd.on]
    rw [this]
end Go.Proofs.Ytadpgodmkodgdaa

namespace Go.Proofs.Ytadpgodmkodgdaa
open Go.RowKit
set_option linter.unusedSimpArgs false
set_option linter.unusedVariables false

theorem run_index_row {P : Program} (w : World) (t e : TypeId) (n size : Nat) (F Y : List Value) (k : Nat) (ht : P.underlying t = some (.array n e)) (hag : (isAgg e).run P w = .ok true w) (hsz : (sizeOf e).run P w = .ok size w) (hk : k < n)
    (hY : (F.drop (k * size)).take size = Y) : (Instr.index t (.agg F.toArray) (.int .i64 (k : Int))).run P w = .ok (.agg Y.toArray) w := by
  have h0 : (0 : Int) ≤ (k : Int) ∧ (k : Int) < (n : Int) := by omega
  have hk' : ¬ n ≤ k := by omega
  simp [Instr.index, asIntOf, run_underlying ht, part, hag, hsz, h0, hk', ← hY]
theorem taken_succ (a : List Gd) (k : Nat) (e : Gd) (h : a[k]? = some e) : (taken (a.take (k + 1))).length = (taken (a.take k)).length + (if e.on = true then 1 else 0) := by
  have : a.take (k + 1) = a.take k ++ [e] := by rw [List.take_add_one, h]; rfl
  rw [this, taken, List.filter_append, List.length_append]
  congr 1
  by_cases he : e.on = true <;> simp [he]
theorem flat_part {a : List Gd} (ht : ∀ e ∈ a, e.tag.length = 16) {k : Nat} {e : Gd} (he : a[k]? = some e) : (((a.map gdC).flatten).drop (k * 18)).take 18 = gdC e := by
  have hl := gdC_length (ht e (List.mem_of_getElem? he))
  apply List.ext_getElem?
  intro i
  rcases Nat.lt_or_ge i 18 with h | h
  · rw [List.getElem?_take, if_pos h, List.getElem?_drop, ← flat_at a ht k i e he h]
    congr 1; omega
  · rw [List.getElem?_take, if_neg (by omega), List.getElem?_eq_none (by omega)]
def zGd : Gd := ⟨List.replicate 16 0, 0, 0⟩
theorem info_garr : (Try.prog.info? 61).map (·.size) = some 144 := by kernel_rfl

set_option maxRecDepth 100000 in
set_option maxHeartbeats 4000000 in
theorem len_tab (T : Nat) (a : List Gd) (w : World) (hT : TabAt w T a) (hok : TabOk a) :
    Calls Try.prog 11 #[.pointer (some ⟨T, 0, none⟩)] w fun e w' => e = .returned (.int .i64 ((taken a).length : Int)) ∧ Below w.heap.size w w' := by
  have hfl : ((a.map gdC).flatten).length = 144 := by rw [flat_len a hT.tags, hT.len]
  have hF : w.rangeAt T 0 ((a.map gdC).flatten) := fun j v hv => by
    have hj := (List.getElem?_eq_some_iff.1 hv).1
    rw [Nat.zero_add, hT.blk.cell, tabC, List.getElem?_append_left hj]
    exact hv
  have hsF : (Try.prog.info? 61).map (·.size) = some ((a.map gdC).flatten).length := by rw [hfl]; exact info_garr
  have huF : Try.prog.underlying 61 = some (.array 8 60) := Try.underlying61
  have hpart := fun (k : Nat) (e : Gd) (he : a[k]? = some e) => flat_part hT.tags he
  obtain ⟨F, hFF⟩ : ∃ F, (a.map gdC).flatten = F := ⟨_, rfl⟩
  obtain ⟨Z, hZ⟩ : ∃ Z, gdC zGd = Z := ⟨_, rfl⟩
  rw [hFF] at hF hsF hpart
  have HZ := Lib.hid hZ
  have HT := Lib.hid hT
  have HOK := Lib.hid hok
  have HF := Lib.hid hF
  have HSF := Lib.hid hsF
  have HUF := Lib.hid huF
  have HPART := Lib.hid hpart
  have hal : a.length = 8 := hT.len
  have HZL : Hid (Z.length = 18) := Lib.hid (by rw [← hZ]; rfl)
  have HAL := Lib.hid hal
  clear hT hok hfl hF hsF huF hFF hZ hpart hal
  go_enter Try.func11, Try.ntmps11
  go_wp2_with fail
  refine (there_yes HT.out).mono ?_; rintro e w1 ⟨rfl, rfl⟩
  go_wp2_with (refine wpList_load_mid rfl 61 _ rfl T 0 rfl F _ HF.out HUF.out rfl HSF.out ?_)
  go_loopw [2, 12] (fun n i wr => ∃ k : Nat, k ≤ 8 ∧ i = .int .i64 k ∧ n = .int .i64 ((taken (a.take k)).length : Int) ∧ Below w.heap.size w wr) (fun _ i _ => 8 - (intOf i).toNat)
  case atStart => exact ⟨0, Nat.zero_le _, rfl, by simp [taken], Below.refl _ _⟩
  case round =>
    obtain ⟨k, hk, rfl, rfl, hB⟩ := hrel
    by_cases hlt : k < 8
    · obtain ⟨e, he⟩ : ∃ e, a[k]? = some e := ⟨_, List.getElem?_eq_getElem (by rw [HAL.out]; exact hlt)⟩
      have hem := List.mem_of_getElem? he
      have hel := HT.out.tags e hem
      have hidx : ∀ W, (Instr.index 61 (.agg F.toArray) (.int .i64 (k : Int))).run Try.prog W = .ok (.agg (gdC e).toArray) W := fun W =>
        run_index_row W 61 60 8 18 F (gdC e) k HUF.out (by kernel_rfl) (by kernel_rfl) hlt (HPART.out k e he)
      have h3 := (gd_box (Blk.new wr 60 (gdC e)) hel).2.2
      have hyl : (gdC e).length = Z.length := by rw [gdC_length hel, HZL.out]
      have hsz : (Try.prog.info? 60).map (·.size) = some (gdC e).toArray.size := by simpa [gdC_length hel] using size_guided
      have hsucc := taken_succ a k e he
      have h1 : (gdC e).toArray.all (·.oneCell') = true := all_oneCell_toArray (gdC_one e)
      have ht3 : (gdC e)[17]? = some (.int .u32 e.ticks) := by
        rw [gdC, List.getElem?_append_right (by simp [hel])]; simp [hel]
      have hon : e.on = decide (0 < e.ticks) := rfl
      obtain ⟨t, ht⟩ : ∃ t, e.ticks = t := ⟨_, rfl⟩
      rw [ht] at ht3 hon
      rw [hon] at hsucc
      have hcnt : (taken (a.take k)).length ≤ 8 := by
        have := taken_le (a.take k)
        rw [List.length_take] at this; omega
      generalize gdC e = Y at *
      have HK4 : Hid (Blk (wr.alloc (.cells Z.toArray 60)) wr.heap.size 60 Z) := Lib.hid (Blk.new wr 60 Z)
      have HK5 : Hid (Blk ((wr.alloc (.cells Z.toArray 60)).setCells wr.heap.size 0 Y) wr.heap.size 60 Y) := Lib.hid (by
        have := Blk.setCells Y 0 _ _ HK4.out (by omega)
        rwa [splice_whole _ _ hyl] at this)
      have HB5 : Hid (Below w.heap.size w ((wr.alloc (.cells Z.toArray 60)).setCells wr.heap.size 0 Y)) := Lib.hid (below_keeps (hB.alloc hB.size _) (Keeps.setCells (g := wr.heap.size) Y 0 _) (Nat.le_refl _) (fun i hi => by subst hi; exact hB.size))
      have h17 : ((wr.alloc (.cells Z.toArray 60)).setCells wr.heap.size 0 Y).cell? ⟨wr.heap.size, 17, none⟩ = some (.int .u32 t) := (HK5.out.cell 17).trans ht3
      have HTH : Hid ((wr.alloc (.cells Z.toArray 60)).there wr.heap.size 0 Y.toArray.size) := Lib.hid (HK4.out.there 0 _ (by simp [hyl]))
      have HIDX := Lib.hid hidx
      have HSZ := Lib.hid hsz
      have H1 := Lib.hid h1
      have HSUCC := Lib.hid hsucc
      generalize (taken (a.take k)).length = c at *
      have hadd : IntKind.i64.wrap ((c : Int) + 1) = (c : Int) + 1 := IntWalk.i64_in _ (by omega)
      have i0 : (0 : Int) ≤ (k : Int) := by omega
      have i1 : (k : Int) < 8 := by omega
      clear hidx hsz h1 hsucc h3 hyl ht3 hon hB HK4 HK5 hel hem he ht
      by_cases hpos : 0 < t
      · have hN : (taken (a.take (k + 1))).length = c + 1 := by have := HSUCC.out; simpa [hpos] using this
        have HN := Lib.hid hN
        clear hN
        go_wp2_with (first
          | (refine wpList_value (o := ⟨some 14, .index 61 _ _, _, _, _, _⟩) (v := .agg Y.toArray) (w' := wr) rfl (by unfold execOp; simp only [Act.eval, Act.put]; simp [HIDX.out]) ?_)
          | (refine wpList_value (o := ⟨some 4, .alloc 60, _, _, _, _⟩) (v := .pointer (some ⟨wr.heap.size, 0, none⟩)) (w' := wr.alloc (.cells (gdC zGd).toArray 60)) rfl (by kernel_rfl) ?_; rw [HZ.out])
          | (refine wpList_store_mid rfl 60 _ _ rfl wr.heap.size 0 Y.toArray rfl rfl HTH.out HSZ.out H1.out ?_; rw [show Y.toArray.toList = Y from rfl]))
        go_roundw
        case rel => exact ⟨k + 1, by omega, by go_num, by rw [HN.out]; simp, HB5.out⟩
        case measure => simp [intOf]; omega
      · have hN : (taken (a.take (k + 1))).length = c := by have := HSUCC.out; simpa [hpos] using this
        have HN := Lib.hid hN
        clear hN
        go_wp2_with (first
          | (refine wpList_value (o := ⟨some 14, .index 61 _ _, _, _, _, _⟩) (v := .agg Y.toArray) (w' := wr) rfl (by unfold execOp; simp only [Act.eval, Act.put]; simp [HIDX.out]) ?_)
          | (refine wpList_value (o := ⟨some 4, .alloc 60, _, _, _, _⟩) (v := .pointer (some ⟨wr.heap.size, 0, none⟩)) (w' := wr.alloc (.cells (gdC zGd).toArray 60)) rfl (by kernel_rfl) ?_; rw [HZ.out])
          | (refine wpList_store_mid rfl 60 _ _ rfl wr.heap.size 0 Y.toArray rfl rfl HTH.out HSZ.out H1.out ?_; rw [show Y.toArray.toList = Y from rfl]))
        go_roundw
        case rel => exact ⟨k + 1, by omega, by go_num, by rw [HN.out], HB5.out⟩
        case measure => simp [intOf]; omega
    · obtain rfl : k = 8 := by omega
      have hN : a.take 8 = a := List.take_of_length_le (by rw [HAL.out]; exact Nat.le_refl _)
      rw [hN]
      have HB := Lib.hid hB
      clear hB
      obtain ⟨c, hc⟩ : ∃ c, (taken a).length = c := ⟨_, rfl⟩
      have HC := Lib.hid hc
      rw [hc]
      clear hc
      go_wp2_with fail
      go_ret
      exact ⟨ret_int (by rw [HC.out]), HB.out⟩
end Go.Proofs.Ytadpgodmkodgdaa
