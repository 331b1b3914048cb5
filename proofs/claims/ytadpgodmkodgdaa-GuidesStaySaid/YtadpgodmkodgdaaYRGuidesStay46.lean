/- The law GuidesStay: who is put stays as long as was granted. (Printed by wip/mkstay26.py.). -/
import Derived.Test.YtadpgodmkodgdaaYRGuidesStay44
import Derived.Test.YtadpgodmkodgdaaYRGuidesStay45
namespace Go.Proofs.Ytadpgodmkodgdaa
open Go.RowKit
set_option linter.unusedSimpArgs false
set_option linter.unusedVariables false

theorem size_tagS : (Try.prog.info? 23).map (·.size) = some 16 := by kernel_rfl
def Rm (a : List Gd) (tag : List Int) : Prop := (∃ e ∈ a, isTag tag e = true) ∨ ∃ e ∈ a, free e = true
theorem Rm.hold {a : List Gd} {tag : List Int} {sp lf : Int} (h : Hold a tag sp lf) (hl : 0 < lf) : Rm a tag := by
  obtain ⟨e, he, ht, _⟩ := h.is hl
  exact .inl ⟨e, he, ht⟩
theorem two_acts {a0 a1 : Ac} (h0 : OkAc a0) (h1 : OkAc a1) {W : World} {B : Nat} {t : TypeId} (h : Blk W B t (acC a0 ++ acC a1)) :
    W.rangeAt B 1 (a0.tag.map (Value.int .u8)) ∧ W.cell? ⟨B, 17, none⟩ = some (.int .u32 a0.spot) ∧ W.cell? ⟨B, 18, none⟩ = some (.int .u32 a0.ticks) ∧
    W.rangeAt B 20 (a1.tag.map (Value.int .u8)) ∧ W.cell? ⟨B, 36, none⟩ = some (.int .u32 a1.spot) ∧ W.cell? ⟨B, 37, none⟩ = some (.int .u32 a1.ticks) := by
  have l0 := acC_length h0.tag
  have r0 : W.rangeAt B 0 (acC a0) := fun j v hv => by
    rw [Nat.zero_add, h.cell, List.getElem?_append_left (List.getElem?_eq_some_iff.1 hv).1]; exact hv
  have r1 : W.rangeAt B 19 (acC a1) := fun j v hv => by
    rw [h.cell, List.getElem?_append_right (by omega), l0, show 19 + j - 19 = j by omega]; exact hv
  obtain ⟨_, p1, p2, p3⟩ := ac_at r0 h0.tag
  obtain ⟨_, q1, q2, q3⟩ := ac_at r1 h1.tag
  rw [Nat.zero_add] at p1 p2 p3
  exact ⟨p1, p2, p3, q1, q2, q3⟩
set_option maxRecDepth 100000 in
set_option maxHeartbeats 8000000 in
theorem stay_at (a0 a1 : Ac) (A : Option Addr) (n c : Nat) (xs : List Ac) (w : World) (h0 : OkAc a0) (h1 : OkAc a1) (h : Acts w A n xs) (hn : n ≤ maxLen) :
    Calls Try.prog 3 #[.agg (acC a0 ++ acC a1).toArray, .slice A n c] w fun e w' => e = .returned (.bool true) ∧ Below w.heap.size w w' := by
  have hbox := fun (W : World) (B : Nat) (h : Blk W B 28 (acC a0 ++ acC a1)) => two_acts h0 h1 h
  have heq := fun W => tag_eq a0.tag a1.tag h0.tag h1.tag W
  have hput := fun T a s k W => put_tab T a a0.tag s k W
  have hget := fun T a W => get_tab T a a0.tag W
  have hxl : (a0.tag.map (Value.int .u8)).length = 16 := by rw [List.length_map, h0.tag]
  have hyl : (a1.tag.map (Value.int .u8)).length = 16 := by rw [List.length_map, h1.tag]
  have hty : a0.tag = a1.tag → a1.tag.map (Value.int .u8) = a0.tag.map (Value.int .u8) := fun h => by rw [h]
  have heqo := fun (x : Ac) (hx : OkAc x) W => tag_eq x.tag a0.tag hx.tag h0.tag W
  have hputo := fun T a (x : Ac) W => put_tab T a x.tag x.spot x.ticks W
  have ht16 := h0.tag
  have HT16 := Lib.hid ht16
  obtain ⟨CS, hCS⟩ : ∃ CS, acC a0 ++ acC a1 = CS := ⟨_, rfl⟩
  obtain ⟨s0, hs0⟩ : ∃ s, a0.spot = s := ⟨_, rfl⟩
  obtain ⟨s1, hs1⟩ : ∃ s, a1.spot = s := ⟨_, rfl⟩
  obtain ⟨k0, hk0⟩ : ∃ s, a0.ticks = s := ⟨_, rfl⟩
  obtain ⟨k1, hk1⟩ : ∃ s, a1.ticks = s := ⟨_, rfl⟩
  obtain ⟨tag, htag⟩ : ∃ t, a0.tag = t := ⟨_, rfl⟩
  simp only [hCS, hs0, hs1, hk0, hk1, htag] at hbox hput hget heq hxl hyl hty heqo ht16
  rw [htag] at HT16
  obtain ⟨X, hX⟩ : ∃ X, tag.map (Value.int .u8) = X := ⟨_, rfl⟩
  obtain ⟨Y, hY⟩ : ∃ Y, a1.tag.map (Value.int .u8) = Y := ⟨_, rfl⟩
  simp only [hX, hY] at hbox hput hget heq hxl hyl hty heqo
  rw [hCS]
  have HBOX := Lib.hid hbox
  have HPUT := Lib.hid hput
  have HGET := Lib.hid hget
  have HEQO := Lib.hid heqo
  have HPUTO := Lib.hid hputo
  have HTY := Lib.hid hty
  have HX := Lib.hid hX
  have HSX : Hid ((Try.prog.info? 23).map (·.size) = some X.length) := Lib.hid (by rw [hxl]; exact size_tagS)
  have HSY : Hid ((Try.prog.info? 23).map (·.size) = some Y.length) := Lib.hid (by rw [hyl]; exact size_tagS)
  have HUT := Lib.hid Try.underlying23
  have HA := Lib.hid h
  have HUS0 : Hid ((0 ≤ s0 ∧ s0 ≤ 4294967295) ∧ (0 ≤ k0 ∧ k0 ≤ 4294967295)) := Lib.hid (by rw [← hs0, ← hk0]; exact ⟨h0.spot, h0.ticks⟩)
  have HUS1 : Hid ((0 ≤ s1 ∧ s1 ≤ 4294967295) ∧ (0 ≤ k1 ∧ k1 ≤ 4294967295)) := Lib.hid (by rw [← hs1, ← hk1]; exact ⟨h1.spot, h1.ticks⟩)
  have HNM := Lib.hid hn
  clear hbox hput hget heqo hputo hty hxl hyl h0 h1 h hs0 hs1 hk0 hk1 hCS hX hY hn ht16
  by_cases h100 : 100 < n
  · have hn1 : decide ((100 : Int) < (n : Int)) = true := by simp; omega
    clear h100 heq
    go_enter Try.func3, Try.ntmps3
    go_wp2_with ((with_reducible refine wpList_isK (o := ⟨some 2, _, _, _, _, _⟩) ?_); refine wpList_boxT (o := ⟨some 2, .box 28 _, _, _, _, _⟩) rfl 28 _ rfl CS rfl ?_; intro w1 HBK1 HB1; obtain ⟨B, hB⟩ : ∃ R, w.heap.size = R := ⟨_, rfl⟩; rw [hB] at HBK1 ⊢; have HBW := Lib.hid hB; clear hB)
    refine (alive_any _).mono ?_
    rintro e w2 ⟨rfl, hb2⟩
    have HBK2 := Lib.hid (HBK1.out.below hb2 HBK1.out.lt)
    have HB2 := Lib.hid (HB1.out.trans (hb2.mono HB1.out.size))
    clear hb2
    go_wp2_with fail
    refine (alive_any _).mono ?_
    rintro e w3 ⟨rfl, hb3⟩
    have HB3 := Lib.hid (HB2.out.trans (hb3.mono HB2.out.size))
    clear hb3
    go_wp2_with fail
    go_ret
    exact ⟨rfl, HB3.out⟩
  · have hn1 : decide ((100 : Int) < (n : Int)) = false := by simp; omega
    have hn2 : n ≤ 100 := by omega
    clear h100
    by_cases htt : tag = a1.tag
    · have HTYX : Hid (Y = X) := Lib.hid (HTY.out htt)
      have hst : ∀ W, Sem.run Try.prog (Op.equalIn 10000 23 (.agg X.toArray) (.agg Y.toArray)) W = .ok true W := fun W => by rw [heq W]; simp [htt]
      have HST := Lib.hid hst
      clear heq hst
      go_enter Try.func3, Try.ntmps3
      go_wp2_with ((with_reducible refine wpList_isK (o := ⟨some 2, _, _, _, _, _⟩) ?_); refine wpList_boxT (o := ⟨some 2, .box 28 _, _, _, _, _⟩) rfl 28 _ rfl CS rfl ?_; intro w1 HBK1 HB1; obtain ⟨B, hB⟩ : ∃ R, w.heap.size = R := ⟨_, rfl⟩; rw [hB] at HBK1 ⊢; have HBW := Lib.hid hB; clear hB)
      refine (alive_any _).mono ?_
      rintro e w2 ⟨rfl, hb2⟩
      have HBK2 := Lib.hid (HBK1.out.below hb2 HBK1.out.lt)
      have HB2 := Lib.hid (HB1.out.trans (hb2.mono HB1.out.size))
      clear hb2
      have hst := HST.out
      go_wp2_with (first
        | ((with_reducible refine wpList_isK (o := ⟨some 23, _, _, _, _, _⟩) ?_); refine wpList_readK (o := ⟨some 23, .load 23 _, _, _, _, _⟩) (v := .agg X.toArray) (by rfl) (exec_loadM rfl B 1 rfl X _ (HBOX.out _ _ HBK2.out).1 HUT.out rfl HSX.out) ?_)
        | ((with_reducible refine wpList_isK (o := ⟨some 26, _, _, _, _, _⟩) ?_); refine wpList_readK (o := ⟨some 26, .load 23 _, _, _, _, _⟩) (v := .agg Y.toArray) (by rfl) (exec_loadM rfl B 20 rfl Y _ (HBOX.out _ _ HBK2.out).2.2.2.1 HUT.out rfl HSY.out) ?_))
      refine (new_any _).mono ?_
      rintro e w3 ⟨rfl, rfl⟩
      obtain ⟨T, hT⟩ : ∃ T, w2.heap.size = T := ⟨_, rfl⟩
      have ht := TabAt.new w2
      have hb := new_below w2 (.cells (tabC eightG).toArray 63)
      have hbk := HBK2.out.below hb HBK2.out.lt
      have hbt : ¬ B = T := by have := HBK2.out.lt; omega
      have htw : w.heap.size ≤ T := by have := HB2.out.size; omega
      rw [hT] at ht ⊢
      generalize w2.alloc (.cells (tabC eightG).toArray 63) = w4 at ht hb hbk ⊢
      have HTB4 := Lib.hid ht
      have HB4 := Lib.hid (HB2.out.trans (hb.mono HB2.out.size))
      have HBK4 := Lib.hid hbk
      have HBT := Lib.hid hbt
      have HTW := Lib.hid htw
      have HH4 : Hid (Hold eightG tag 0 0) := Lib.hid (hold_new tag)
      clear hst ht hb hbk hbt htw hT HBK2 HBK1 HB1
      go_wp2_with fail
      go_loopw [6, 7, 8] (fun lv sv iv wr => ∃ (j : Nat) (a : List Gd) (sp lf : Int), (j = 0 ∧ iv = .int .i64 0 ∨ j = 1 ∧ iv = .int .i64 1 ∨ j = 2 ∧ iv = .int .i64 2) ∧ lv = .int .u32 lf ∧ sv = .int .u32 sp ∧ TabAt wr T a ∧ Hold a tag sp lf ∧ Rm a tag ∧ (0 ≤ lf ∧ lf ≤ 256) ∧ Keeps (· = T) w4 wr) (fun _ _ i _ => 2 - (intOf i).toNat)
      case atStart => exact ⟨0, eightG, 0, 0, .inl ⟨rfl, rfl⟩, rfl, rfl, HTB4.out, HH4.out, .inr eight_free, ⟨by omega, by omega⟩, Keeps.refl _ _⟩
      case round =>
        obtain ⟨j, a, sp, lf, hj, rfl, rfl, htb, hh, hr, hlf, hk⟩ := hrel
        have HTB := Lib.hid htb
        have HH := Lib.hid hh
        have HR := Lib.hid hr
        have HLF := Lib.hid hlf
        have HKr := Lib.hid hk
        have HBKr := Lib.hid (HBK4.out.keep hk HBT.out)
        clear htb hh hr hlf hk
        rcases hj with ⟨rfl, rfl⟩ | ⟨rfl, rfl⟩ | ⟨rfl, rfl⟩
        · have hus := HUS0.out
          by_cases hs : s0 = 0
          · subst hs
            have HV : Hid ((0 : Int) = 0 ∨ k0 < 1 ∨ 256 < k0) := Lib.hid (.inl rfl)
            have e1 : wr.rangeAt B 1 X := (HBOX.out _ _ HBKr.out).1
            have e2 : wr.cell? ⟨B, 17, none⟩ = some (.int .u32 0) := (HBOX.out _ _ HBKr.out).2.1
            have e3 : wr.cell? ⟨B, 18, none⟩ = some (.int .u32 k0) := (HBOX.out _ _ HBKr.out).2.2.1
            go_upto_region 9 with fail
            have g1 : wr.drew.rangeAt B 1 X := e1
            have g2 : wr.drew.cell? ⟨B, 17, none⟩ = some (.int .u32 0) := e2
            have g3 : wr.drew.cell? ⟨B, 18, none⟩ = some (.int .u32 k0) := e3
            have htd : TabAt wr.drew T a := HTB.out.drew
            have hkd : Keeps (· = T) w4 wr.drew := HKr.out.drew
            have HTD := Lib.hid htd
            have HKD := Lib.hid hkd
            clear e1 e2 e3 htd hkd
            refine wp_region_noPanic ?_
            refine wp_region_held_drew (S := (fun w' => w'.rangeAt B 1 X ∧ w'.cell? ⟨B, 17, none⟩ = some (.int .u32 0) ∧ w'.cell? ⟨B, 18, none⟩ = some (.int .u32 k0))) (by kernel_rfl) ?_ (fun hHeld => ?_)
            · ((try dsimp only); refine ⟨?_, ?_, ?_⟩ <;> (first | assumption | (go_keep; done)))
            refine wpAnyH_take (i := 0) (oi := ⟨some 35, _, _, _, _, _⟩) (v := ?_) rfl (by kernel_rfl) (by kernel_rfl) (by kernel_rfl) (fun _ _ _ h => False.elim h) (Or.inl ⟨by rfl, ?_⟩) (by assumption) ?_
            rotate_left
            · intro w hSw
              (try dsimp only at hSw)
              go_simp
              all_goals with_reducible rfl
            (try simp only [Act.put, List.setIfInBounds_toArray, List.set_cons_zero, List.set_cons_succ])
            refine wpAnyH_take (i := 1) (oi := ⟨some 36, _, _, _, _, _⟩) (v := ?_) rfl (by kernel_rfl) (by kernel_rfl) (by kernel_rfl) (fun _ _ _ h => False.elim h) (Or.inl ⟨by rfl, ?_⟩) (by assumption) ?_
            rotate_left
            · intro w hSw
              (try dsimp only at hSw)
              go_simp
              all_goals with_reducible rfl
            (try simp only [Act.put, List.setIfInBounds_toArray, List.set_cons_zero, List.set_cons_succ])
            refine wpAnyH_take (i := 2) (oi := ⟨some 37, _, _, _, _, _⟩) (v := ?_) rfl (by kernel_rfl) (by kernel_rfl) (by kernel_rfl) (fun _ _ _ h => False.elim h) (Or.inl ⟨by rfl, ?_⟩) (by assumption) ?_
            rotate_left
            · intro w hSw
              (try dsimp only at hSw)
              go_simp
              all_goals with_reducible rfl
            (try simp only [Act.put, List.setIfInBounds_toArray, List.set_cons_zero, List.set_cons_succ])
            refine wpAnyH_take (i := 3) (oi := ⟨some 38, _, _, _, _, _⟩) (v := ?_) rfl (by kernel_rfl) (by kernel_rfl) (by kernel_rfl) (fun _ _ _ h => False.elim h) (Or.inl ⟨by rfl, ?_⟩) (by assumption) ?_
            rotate_left
            · intro w hSw
              (try dsimp only at hSw)
              go_simp
              all_goals with_reducible rfl
            (try simp only [Act.put, List.setIfInBounds_toArray, List.set_cons_zero, List.set_cons_succ])
            refine wpAnyH_take (i := 4) (oi := ⟨some 39, _, _, _, _, _⟩) (v := .agg X.toArray) rfl (by kernel_rfl) (by kernel_rfl) (by kernel_rfl) (fun _ _ _ h => False.elim h) ?_ (by assumption) ?_
            · refine yieldsIf_load_mid ?_ 23 _ rfl B 1 rfl X _ ?_ HUT.out rfl HSX.out
              · rfl
              · (intro w hSw; (try dsimp only at hSw); go_split_ands; assumption)
            (try simp only [Act.put, List.setIfInBounds_toArray, List.set_cons_zero, List.set_cons_succ])
            refine wpAnyH_take (i := 5) (oi := ⟨some 40, _, _, _, _, _⟩) (v := ?_) rfl (by kernel_rfl) (by kernel_rfl) (by kernel_rfl) (fun _ _ _ h => False.elim h) (Or.inl ⟨by rfl, ?_⟩) (by assumption) ?_
            rotate_left
            · intro w hSw
              (try dsimp only at hSw)
              go_simp
              all_goals with_reducible rfl
            (try simp only [Act.put, List.setIfInBounds_toArray, List.set_cons_zero, List.set_cons_succ])
            refine wpAnyH_take (i := 6) (oi := ⟨some 41, _, _, _, _, _⟩) (v := ?_) rfl (by kernel_rfl) (by kernel_rfl) (by kernel_rfl) (fun _ _ _ h => False.elim h) (Or.inl ⟨by rfl, ?_⟩) (by assumption) ?_
            rotate_left
            · intro w hSw
              (try dsimp only at hSw)
              go_simp
              all_goals with_reducible rfl
            (try simp only [Act.put, List.setIfInBounds_toArray, List.set_cons_zero, List.set_cons_succ])
            refine wpAnyH_take (i := 7) (oi := ⟨some 42, _, _, _, _, _⟩) (v := ?_) rfl (by kernel_rfl) (by kernel_rfl) (by kernel_rfl) (fun _ _ _ h => False.elim h) (Or.inl ⟨by rfl, ?_⟩) (by assumption) ?_
            rotate_left
            · intro w hSw
              (try dsimp only at hSw)
              go_simp
              all_goals with_reducible rfl
            (try simp only [Act.put, List.setIfInBounds_toArray, List.set_cons_zero, List.set_cons_succ])
            refine wpAnyH_take (i := 8) (oi := ⟨some 43, _, _, _, _, _⟩) (v := ?_) rfl (by kernel_rfl) (by kernel_rfl) (by kernel_rfl) (fun _ _ _ h => False.elim h) (Or.inl ⟨by rfl, ?_⟩) (by assumption) ?_
            rotate_left
            · intro w hSw
              (try dsimp only at hSw)
              go_simp
              all_goals with_reducible rfl
            (try simp only [Act.put, List.setIfInBounds_toArray, List.set_cons_zero, List.set_cons_succ])
            refine wpAnyH_take (i := 9) (oi := ⟨some 44, _, _, _, _, _⟩) (v := ?_) rfl (by kernel_rfl) (by kernel_rfl) (by kernel_rfl) (fun _ _ _ h => False.elim h) (Or.inl ⟨by rfl, ?_⟩) (by assumption) ?_
            rotate_left
            · intro w hSw
              (try dsimp only at hSw)
              go_simp
              all_goals with_reducible rfl
            (try simp only [Act.put, List.setIfInBounds_toArray, List.set_cons_zero, List.set_cons_succ])
            refine wpAnyH_take (i := 10) (oi := ⟨some 45, _, _, _, _, _⟩) (v := ?_) rfl (by kernel_rfl) (by kernel_rfl) (by kernel_rfl) (fun _ _ _ h => False.elim h) (Or.inl ⟨by rfl, ?_⟩) (by assumption) ?_
            rotate_left
            · intro w hSw
              (try dsimp only at hSw)
              go_simp
              all_goals with_reducible rfl
            (try simp only [Act.put, List.setIfInBounds_toArray, List.set_cons_zero, List.set_cons_succ])
            refine wpAnyH_take (i := 11) (oi := ⟨some 46, _, _, _, _, _⟩) (v := ?_) rfl (by kernel_rfl) (by kernel_rfl) (by kernel_rfl) (fun _ _ _ h => False.elim h) (Or.inl ⟨by rfl, ?_⟩) (by assumption) ?_
            rotate_left
            · intro w hSw
              (try dsimp only at hSw)
              go_simp
              all_goals with_reducible rfl
            (try simp only [Act.put, List.setIfInBounds_toArray, List.set_cons_zero, List.set_cons_succ])
            refine wpAnyH_take (i := 12) (oi := ⟨some 47, _, _, _, _, _⟩) (v := ?_) rfl (by kernel_rfl) (by kernel_rfl) (by kernel_rfl) (fun _ _ _ h => False.elim h) (Or.inl ⟨by rfl, ?_⟩) (by assumption) ?_
            rotate_left
            · intro w hSw
              (try dsimp only at hSw)
              go_simp
              all_goals with_reducible rfl
            (try simp only [Act.put, List.setIfInBounds_toArray, List.set_cons_zero, List.set_cons_succ])
            refine wpAnyH_ready (rs := [13]) (by kernel_rfl) (by simp) ?_
            refine AllReadyH.cons (o := ⟨some 48, _, _, _, _, _⟩) rfl (fun K hK => ?_) AllReadyH.nil
            go_simp
            (refine (HPUT.out T a 0 k0 _ HTD.out HH.out.nat HT16.out).mono ?_; rintro e w7 ⟨E7, a7, rfl, hp7, ht7, hk7⟩; have HK7 := Lib.hid (HKD.out.trans hk7); have HBK7 := Lib.hid (HBK4.out.keep HK7.out HBT.out); have g1 : w7.rangeAt B 1 X := (HBOX.out _ _ HBK7.out).1; have g2 : w7.cell? ⟨B, 17, none⟩ = some (.int .u32 0) := (HBOX.out _ _ HBK7.out).2.1; have g3 : w7.cell? ⟨B, 18, none⟩ = some (.int .u32 k0) := (HBOX.out _ _ HBK7.out).2.2.1; have HT7 := Lib.hid ht7; have HP7 := Lib.hid hp7; clear hp7 ht7 hk7)
            (try go_wp2_with fail)
            refine hK.out _ _ ?_ (fun hHeld => ?_)
            · ((try dsimp only); refine ⟨?_, ?_, ?_⟩ <;> (first | assumption | (go_keep; done)))
            clear hK K
            (try simp only [Act.put, List.setIfInBounds_toArray, List.set_cons_zero, List.set_cons_succ])
            refine wpAnyH_take (i := 14) (oi := ⟨some 9, _, _, _, _, _⟩) (v := ?_) rfl (by kernel_rfl) (by kernel_rfl) (by kernel_rfl) (fun _ _ _ h => False.elim h) (Or.inl ⟨by rfl, ?_⟩) (by assumption) ?_
            rotate_left
            · intro w hSw
              (try dsimp only at hSw)
              go_simp
              all_goals with_reducible rfl
            (try simp only [Act.put, List.setIfInBounds_toArray, List.set_cons_zero, List.set_cons_succ])
            refine wpAnyH_done (by kernel_rfl) ?_ _
            refine NoPanic.normal ?_
            obtain ⟨rfl, rfl⟩ := put_arg HP7.out (by have := HV.out; omega)
            clear hHeld
            go_wp2_with fail
            go_roundw
            case rel => exact ⟨1, _, sp, lf, .inr (.inl ⟨rfl, rfl⟩), rfl, rfl, HT7.out, HH.out, HR.out, HLF.out, HK7.out⟩
            case measure => simp [intOf]
          · have f1 : (s0 == 0) = false := by simpa using hs
            have f2 : (s0 != 0) = true := by simp [f1, bne]
            by_cases hk : k0 < 1
            · have HV : Hid (s0 = 0 ∨ k0 < 1 ∨ 256 < k0) := Lib.hid (.inr (.inl hk))
              have f3 : ¬ 1 ≤ k0 := by omega
              clear hs hk
              have e1 : wr.rangeAt B 1 X := (HBOX.out _ _ HBKr.out).1
              have e2 : wr.cell? ⟨B, 17, none⟩ = some (.int .u32 s0) := (HBOX.out _ _ HBKr.out).2.1
              have e3 : wr.cell? ⟨B, 18, none⟩ = some (.int .u32 k0) := (HBOX.out _ _ HBKr.out).2.2.1
              go_upto_region 9 with fail
              have g1 : wr.drew.rangeAt B 1 X := e1
              have g2 : wr.drew.cell? ⟨B, 17, none⟩ = some (.int .u32 s0) := e2
              have g3 : wr.drew.cell? ⟨B, 18, none⟩ = some (.int .u32 k0) := e3
              have htd : TabAt wr.drew T a := HTB.out.drew
              have hkd : Keeps (· = T) w4 wr.drew := HKr.out.drew
              have HTD := Lib.hid htd
              have HKD := Lib.hid hkd
              clear e1 e2 e3 htd hkd
              refine wp_region_noPanic ?_
              refine wp_region_held_drew (S := (fun w' => w'.rangeAt B 1 X ∧ w'.cell? ⟨B, 17, none⟩ = some (.int .u32 s0) ∧ w'.cell? ⟨B, 18, none⟩ = some (.int .u32 k0))) (by kernel_rfl) ?_ (fun hHeld => ?_)
              · ((try dsimp only); refine ⟨?_, ?_, ?_⟩ <;> (first | assumption | (go_keep; done)))
              refine wpAnyH_take (i := 0) (oi := ⟨some 35, _, _, _, _, _⟩) (v := ?_) rfl (by kernel_rfl) (by kernel_rfl) (by kernel_rfl) (fun _ _ _ h => False.elim h) (Or.inl ⟨by rfl, ?_⟩) (by assumption) ?_
              rotate_left
              · intro w hSw
                (try dsimp only at hSw)
                go_simp
                all_goals with_reducible rfl
              (try simp only [Act.put, List.setIfInBounds_toArray, List.set_cons_zero, List.set_cons_succ])
              refine wpAnyH_take (i := 1) (oi := ⟨some 36, _, _, _, _, _⟩) (v := ?_) rfl (by kernel_rfl) (by kernel_rfl) (by kernel_rfl) (fun _ _ _ h => False.elim h) (Or.inl ⟨by rfl, ?_⟩) (by assumption) ?_
              rotate_left
              · intro w hSw
                (try dsimp only at hSw)
                go_simp
                all_goals with_reducible rfl
              (try simp only [Act.put, List.setIfInBounds_toArray, List.set_cons_zero, List.set_cons_succ])
              refine wpAnyH_take (i := 2) (oi := ⟨some 37, _, _, _, _, _⟩) (v := ?_) rfl (by kernel_rfl) (by kernel_rfl) (by kernel_rfl) (fun _ _ _ h => False.elim h) (Or.inl ⟨by rfl, ?_⟩) (by assumption) ?_
              rotate_left
              · intro w hSw
                (try dsimp only at hSw)
                go_simp
                all_goals with_reducible rfl
              (try simp only [Act.put, List.setIfInBounds_toArray, List.set_cons_zero, List.set_cons_succ])
              refine wpAnyH_take (i := 3) (oi := ⟨some 38, _, _, _, _, _⟩) (v := ?_) rfl (by kernel_rfl) (by kernel_rfl) (by kernel_rfl) (fun _ _ _ h => False.elim h) (Or.inl ⟨by rfl, ?_⟩) (by assumption) ?_
              rotate_left
              · intro w hSw
                (try dsimp only at hSw)
                go_simp
                all_goals with_reducible rfl
              (try simp only [Act.put, List.setIfInBounds_toArray, List.set_cons_zero, List.set_cons_succ])
              refine wpAnyH_take (i := 4) (oi := ⟨some 39, _, _, _, _, _⟩) (v := .agg X.toArray) rfl (by kernel_rfl) (by kernel_rfl) (by kernel_rfl) (fun _ _ _ h => False.elim h) ?_ (by assumption) ?_
              · refine yieldsIf_load_mid ?_ 23 _ rfl B 1 rfl X _ ?_ HUT.out rfl HSX.out
                · rfl
                · (intro w hSw; (try dsimp only at hSw); go_split_ands; assumption)
              (try simp only [Act.put, List.setIfInBounds_toArray, List.set_cons_zero, List.set_cons_succ])
              refine wpAnyH_take (i := 5) (oi := ⟨some 40, _, _, _, _, _⟩) (v := ?_) rfl (by kernel_rfl) (by kernel_rfl) (by kernel_rfl) (fun _ _ _ h => False.elim h) (Or.inl ⟨by rfl, ?_⟩) (by assumption) ?_
              rotate_left
              · intro w hSw
                (try dsimp only at hSw)
                go_simp
                all_goals with_reducible rfl
              (try simp only [Act.put, List.setIfInBounds_toArray, List.set_cons_zero, List.set_cons_succ])
              refine wpAnyH_take (i := 6) (oi := ⟨some 41, _, _, _, _, _⟩) (v := ?_) rfl (by kernel_rfl) (by kernel_rfl) (by kernel_rfl) (fun _ _ _ h => False.elim h) (Or.inl ⟨by rfl, ?_⟩) (by assumption) ?_
              rotate_left
              · intro w hSw
                (try dsimp only at hSw)
                go_simp
                all_goals with_reducible rfl
              (try simp only [Act.put, List.setIfInBounds_toArray, List.set_cons_zero, List.set_cons_succ])
              refine wpAnyH_take (i := 7) (oi := ⟨some 42, _, _, _, _, _⟩) (v := ?_) rfl (by kernel_rfl) (by kernel_rfl) (by kernel_rfl) (fun _ _ _ h => False.elim h) (Or.inl ⟨by rfl, ?_⟩) (by assumption) ?_
              rotate_left
              · intro w hSw
                (try dsimp only at hSw)
                go_simp
                all_goals with_reducible rfl
              (try simp only [Act.put, List.setIfInBounds_toArray, List.set_cons_zero, List.set_cons_succ])
              refine wpAnyH_take (i := 8) (oi := ⟨some 43, _, _, _, _, _⟩) (v := ?_) rfl (by kernel_rfl) (by kernel_rfl) (by kernel_rfl) (fun _ _ _ h => False.elim h) (Or.inl ⟨by rfl, ?_⟩) (by assumption) ?_
              rotate_left
              · intro w hSw
                (try dsimp only at hSw)
                go_simp
                all_goals with_reducible rfl
              (try simp only [Act.put, List.setIfInBounds_toArray, List.set_cons_zero, List.set_cons_succ])
              refine wpAnyH_take (i := 9) (oi := ⟨some 44, _, _, _, _, _⟩) (v := ?_) rfl (by kernel_rfl) (by kernel_rfl) (by kernel_rfl) (fun _ _ _ h => False.elim h) (Or.inl ⟨by rfl, ?_⟩) (by assumption) ?_
              rotate_left
              · intro w hSw
                (try dsimp only at hSw)
                go_simp
                all_goals with_reducible rfl
              (try simp only [Act.put, List.setIfInBounds_toArray, List.set_cons_zero, List.set_cons_succ])
              refine wpAnyH_take (i := 10) (oi := ⟨some 45, _, _, _, _, _⟩) (v := ?_) rfl (by kernel_rfl) (by kernel_rfl) (by kernel_rfl) (fun _ _ _ h => False.elim h) (Or.inl ⟨by rfl, ?_⟩) (by assumption) ?_
              rotate_left
              · intro w hSw
                (try dsimp only at hSw)
                go_simp
                all_goals with_reducible rfl
              (try simp only [Act.put, List.setIfInBounds_toArray, List.set_cons_zero, List.set_cons_succ])
              refine wpAnyH_take (i := 11) (oi := ⟨some 46, _, _, _, _, _⟩) (v := ?_) rfl (by kernel_rfl) (by kernel_rfl) (by kernel_rfl) (fun _ _ _ h => False.elim h) (Or.inl ⟨by rfl, ?_⟩) (by assumption) ?_
              rotate_left
              · intro w hSw
                (try dsimp only at hSw)
                go_simp
                all_goals with_reducible rfl
              (try simp only [Act.put, List.setIfInBounds_toArray, List.set_cons_zero, List.set_cons_succ])
              refine wpAnyH_take (i := 12) (oi := ⟨some 47, _, _, _, _, _⟩) (v := ?_) rfl (by kernel_rfl) (by kernel_rfl) (by kernel_rfl) (fun _ _ _ h => False.elim h) (Or.inl ⟨by rfl, ?_⟩) (by assumption) ?_
              rotate_left
              · intro w hSw
                (try dsimp only at hSw)
                go_simp
                all_goals with_reducible rfl
              (try simp only [Act.put, List.setIfInBounds_toArray, List.set_cons_zero, List.set_cons_succ])
              refine wpAnyH_ready (rs := [13]) (by kernel_rfl) (by simp) ?_
              refine AllReadyH.cons (o := ⟨some 48, _, _, _, _, _⟩) rfl (fun K hK => ?_) AllReadyH.nil
              go_simp
              (refine (HPUT.out T a s0 k0 _ HTD.out HH.out.nat HT16.out).mono ?_; rintro e w7 ⟨E7, a7, rfl, hp7, ht7, hk7⟩; have HK7 := Lib.hid (HKD.out.trans hk7); have HBK7 := Lib.hid (HBK4.out.keep HK7.out HBT.out); have g1 : w7.rangeAt B 1 X := (HBOX.out _ _ HBK7.out).1; have g2 : w7.cell? ⟨B, 17, none⟩ = some (.int .u32 s0) := (HBOX.out _ _ HBK7.out).2.1; have g3 : w7.cell? ⟨B, 18, none⟩ = some (.int .u32 k0) := (HBOX.out _ _ HBK7.out).2.2.1; have HT7 := Lib.hid ht7; have HP7 := Lib.hid hp7; clear hp7 ht7 hk7)
              (try go_wp2_with fail)
              refine hK.out _ _ ?_ (fun hHeld => ?_)
              · ((try dsimp only); refine ⟨?_, ?_, ?_⟩ <;> (first | assumption | (go_keep; done)))
              clear hK K
              (try simp only [Act.put, List.setIfInBounds_toArray, List.set_cons_zero, List.set_cons_succ])
              refine wpAnyH_take (i := 14) (oi := ⟨some 9, _, _, _, _, _⟩) (v := ?_) rfl (by kernel_rfl) (by kernel_rfl) (by kernel_rfl) (fun _ _ _ h => False.elim h) (Or.inl ⟨by rfl, ?_⟩) (by assumption) ?_
              rotate_left
              · intro w hSw
                (try dsimp only at hSw)
                go_simp
                all_goals with_reducible rfl
              (try simp only [Act.put, List.setIfInBounds_toArray, List.set_cons_zero, List.set_cons_succ])
              refine wpAnyH_done (by kernel_rfl) ?_ _
              refine NoPanic.normal ?_
              obtain ⟨rfl, rfl⟩ := put_arg HP7.out (by have := HV.out; omega)
              clear hHeld
              go_wp2_with fail
              go_roundw
              case rel => exact ⟨1, _, sp, lf, .inr (.inl ⟨rfl, rfl⟩), rfl, rfl, HT7.out, HH.out, HR.out, HLF.out, HK7.out⟩
              case measure => simp [intOf]
            · have f3 : 1 ≤ k0 := by omega
              by_cases hg : 256 < k0
              · have HV : Hid (s0 = 0 ∨ k0 < 1 ∨ 256 < k0) := Lib.hid (.inr (.inr hg))
                have f4 : ¬ k0 ≤ 256 := by omega
                clear hs hk hg
                have e1 : wr.rangeAt B 1 X := (HBOX.out _ _ HBKr.out).1
                have e2 : wr.cell? ⟨B, 17, none⟩ = some (.int .u32 s0) := (HBOX.out _ _ HBKr.out).2.1
                have e3 : wr.cell? ⟨B, 18, none⟩ = some (.int .u32 k0) := (HBOX.out _ _ HBKr.out).2.2.1
                go_upto_region 9 with fail
                have g1 : wr.drew.rangeAt B 1 X := e1
                have g2 : wr.drew.cell? ⟨B, 17, none⟩ = some (.int .u32 s0) := e2
                have g3 : wr.drew.cell? ⟨B, 18, none⟩ = some (.int .u32 k0) := e3
                have htd : TabAt wr.drew T a := HTB.out.drew
                have hkd : Keeps (· = T) w4 wr.drew := HKr.out.drew
                have HTD := Lib.hid htd
                have HKD := Lib.hid hkd
                clear e1 e2 e3 htd hkd
                refine wp_region_noPanic ?_
                refine wp_region_held_drew (S := (fun w' => w'.rangeAt B 1 X ∧ w'.cell? ⟨B, 17, none⟩ = some (.int .u32 s0) ∧ w'.cell? ⟨B, 18, none⟩ = some (.int .u32 k0))) (by kernel_rfl) ?_ (fun hHeld => ?_)
                · ((try dsimp only); refine ⟨?_, ?_, ?_⟩ <;> (first | assumption | (go_keep; done)))
                refine wpAnyH_take (i := 0) (oi := ⟨some 35, _, _, _, _, _⟩) (v := ?_) rfl (by kernel_rfl) (by kernel_rfl) (by kernel_rfl) (fun _ _ _ h => False.elim h) (Or.inl ⟨by rfl, ?_⟩) (by assumption) ?_
                rotate_left
                · intro w hSw
                  (try dsimp only at hSw)
                  go_simp
                  all_goals with_reducible rfl
                (try simp only [Act.put, List.setIfInBounds_toArray, List.set_cons_zero, List.set_cons_succ])
                refine wpAnyH_take (i := 1) (oi := ⟨some 36, _, _, _, _, _⟩) (v := ?_) rfl (by kernel_rfl) (by kernel_rfl) (by kernel_rfl) (fun _ _ _ h => False.elim h) (Or.inl ⟨by rfl, ?_⟩) (by assumption) ?_
                rotate_left
                · intro w hSw
                  (try dsimp only at hSw)
                  go_simp
                  all_goals with_reducible rfl
                (try simp only [Act.put, List.setIfInBounds_toArray, List.set_cons_zero, List.set_cons_succ])
                refine wpAnyH_take (i := 2) (oi := ⟨some 37, _, _, _, _, _⟩) (v := ?_) rfl (by kernel_rfl) (by kernel_rfl) (by kernel_rfl) (fun _ _ _ h => False.elim h) (Or.inl ⟨by rfl, ?_⟩) (by assumption) ?_
                rotate_left
                · intro w hSw
                  (try dsimp only at hSw)
                  go_simp
                  all_goals with_reducible rfl
                (try simp only [Act.put, List.setIfInBounds_toArray, List.set_cons_zero, List.set_cons_succ])
                refine wpAnyH_take (i := 3) (oi := ⟨some 38, _, _, _, _, _⟩) (v := ?_) rfl (by kernel_rfl) (by kernel_rfl) (by kernel_rfl) (fun _ _ _ h => False.elim h) (Or.inl ⟨by rfl, ?_⟩) (by assumption) ?_
                rotate_left
                · intro w hSw
                  (try dsimp only at hSw)
                  go_simp
                  all_goals with_reducible rfl
                (try simp only [Act.put, List.setIfInBounds_toArray, List.set_cons_zero, List.set_cons_succ])
                refine wpAnyH_take (i := 4) (oi := ⟨some 39, _, _, _, _, _⟩) (v := .agg X.toArray) rfl (by kernel_rfl) (by kernel_rfl) (by kernel_rfl) (fun _ _ _ h => False.elim h) ?_ (by assumption) ?_
                · refine yieldsIf_load_mid ?_ 23 _ rfl B 1 rfl X _ ?_ HUT.out rfl HSX.out
                  · rfl
                  · (intro w hSw; (try dsimp only at hSw); go_split_ands; assumption)
                (try simp only [Act.put, List.setIfInBounds_toArray, List.set_cons_zero, List.set_cons_succ])
                refine wpAnyH_take (i := 5) (oi := ⟨some 40, _, _, _, _, _⟩) (v := ?_) rfl (by kernel_rfl) (by kernel_rfl) (by kernel_rfl) (fun _ _ _ h => False.elim h) (Or.inl ⟨by rfl, ?_⟩) (by assumption) ?_
                rotate_left
                · intro w hSw
                  (try dsimp only at hSw)
                  go_simp
                  all_goals with_reducible rfl
                (try simp only [Act.put, List.setIfInBounds_toArray, List.set_cons_zero, List.set_cons_succ])
                refine wpAnyH_take (i := 6) (oi := ⟨some 41, _, _, _, _, _⟩) (v := ?_) rfl (by kernel_rfl) (by kernel_rfl) (by kernel_rfl) (fun _ _ _ h => False.elim h) (Or.inl ⟨by rfl, ?_⟩) (by assumption) ?_
                rotate_left
                · intro w hSw
                  (try dsimp only at hSw)
                  go_simp
                  all_goals with_reducible rfl
                (try simp only [Act.put, List.setIfInBounds_toArray, List.set_cons_zero, List.set_cons_succ])
                refine wpAnyH_take (i := 7) (oi := ⟨some 42, _, _, _, _, _⟩) (v := ?_) rfl (by kernel_rfl) (by kernel_rfl) (by kernel_rfl) (fun _ _ _ h => False.elim h) (Or.inl ⟨by rfl, ?_⟩) (by assumption) ?_
                rotate_left
                · intro w hSw
                  (try dsimp only at hSw)
                  go_simp
                  all_goals with_reducible rfl
                (try simp only [Act.put, List.setIfInBounds_toArray, List.set_cons_zero, List.set_cons_succ])
                refine wpAnyH_take (i := 8) (oi := ⟨some 43, _, _, _, _, _⟩) (v := ?_) rfl (by kernel_rfl) (by kernel_rfl) (by kernel_rfl) (fun _ _ _ h => False.elim h) (Or.inl ⟨by rfl, ?_⟩) (by assumption) ?_
                rotate_left
                · intro w hSw
                  (try dsimp only at hSw)
                  go_simp
                  all_goals with_reducible rfl
                (try simp only [Act.put, List.setIfInBounds_toArray, List.set_cons_zero, List.set_cons_succ])
                refine wpAnyH_take (i := 9) (oi := ⟨some 44, _, _, _, _, _⟩) (v := ?_) rfl (by kernel_rfl) (by kernel_rfl) (by kernel_rfl) (fun _ _ _ h => False.elim h) (Or.inl ⟨by rfl, ?_⟩) (by assumption) ?_
                rotate_left
                · intro w hSw
                  (try dsimp only at hSw)
                  go_simp
                  all_goals with_reducible rfl
                (try simp only [Act.put, List.setIfInBounds_toArray, List.set_cons_zero, List.set_cons_succ])
                refine wpAnyH_take (i := 10) (oi := ⟨some 45, _, _, _, _, _⟩) (v := ?_) rfl (by kernel_rfl) (by kernel_rfl) (by kernel_rfl) (fun _ _ _ h => False.elim h) (Or.inl ⟨by rfl, ?_⟩) (by assumption) ?_
                rotate_left
                · intro w hSw
                  (try dsimp only at hSw)
                  go_simp
                  all_goals with_reducible rfl
                (try simp only [Act.put, List.setIfInBounds_toArray, List.set_cons_zero, List.set_cons_succ])
                refine wpAnyH_take (i := 11) (oi := ⟨some 46, _, _, _, _, _⟩) (v := ?_) rfl (by kernel_rfl) (by kernel_rfl) (by kernel_rfl) (fun _ _ _ h => False.elim h) (Or.inl ⟨by rfl, ?_⟩) (by assumption) ?_
                rotate_left
                · intro w hSw
                  (try dsimp only at hSw)
                  go_simp
                  all_goals with_reducible rfl
                (try simp only [Act.put, List.setIfInBounds_toArray, List.set_cons_zero, List.set_cons_succ])
                refine wpAnyH_take (i := 12) (oi := ⟨some 47, _, _, _, _, _⟩) (v := ?_) rfl (by kernel_rfl) (by kernel_rfl) (by kernel_rfl) (fun _ _ _ h => False.elim h) (Or.inl ⟨by rfl, ?_⟩) (by assumption) ?_
                rotate_left
                · intro w hSw
                  (try dsimp only at hSw)
                  go_simp
                  all_goals with_reducible rfl
                (try simp only [Act.put, List.setIfInBounds_toArray, List.set_cons_zero, List.set_cons_succ])
                refine wpAnyH_ready (rs := [13]) (by kernel_rfl) (by simp) ?_
                refine AllReadyH.cons (o := ⟨some 48, _, _, _, _, _⟩) rfl (fun K hK => ?_) AllReadyH.nil
                go_simp
                (refine (HPUT.out T a s0 k0 _ HTD.out HH.out.nat HT16.out).mono ?_; rintro e w7 ⟨E7, a7, rfl, hp7, ht7, hk7⟩; have HK7 := Lib.hid (HKD.out.trans hk7); have HBK7 := Lib.hid (HBK4.out.keep HK7.out HBT.out); have g1 : w7.rangeAt B 1 X := (HBOX.out _ _ HBK7.out).1; have g2 : w7.cell? ⟨B, 17, none⟩ = some (.int .u32 s0) := (HBOX.out _ _ HBK7.out).2.1; have g3 : w7.cell? ⟨B, 18, none⟩ = some (.int .u32 k0) := (HBOX.out _ _ HBK7.out).2.2.1; have HT7 := Lib.hid ht7; have HP7 := Lib.hid hp7; clear hp7 ht7 hk7)
                (try go_wp2_with fail)
                refine hK.out _ _ ?_ (fun hHeld => ?_)
                · ((try dsimp only); refine ⟨?_, ?_, ?_⟩ <;> (first | assumption | (go_keep; done)))
                clear hK K
                (try simp only [Act.put, List.setIfInBounds_toArray, List.set_cons_zero, List.set_cons_succ])
                refine wpAnyH_take (i := 14) (oi := ⟨some 9, _, _, _, _, _⟩) (v := ?_) rfl (by kernel_rfl) (by kernel_rfl) (by kernel_rfl) (fun _ _ _ h => False.elim h) (Or.inl ⟨by rfl, ?_⟩) (by assumption) ?_
                rotate_left
                · intro w hSw
                  (try dsimp only at hSw)
                  go_simp
                  all_goals with_reducible rfl
                (try simp only [Act.put, List.setIfInBounds_toArray, List.set_cons_zero, List.set_cons_succ])
                refine wpAnyH_done (by kernel_rfl) ?_ _
                refine NoPanic.normal ?_
                obtain ⟨rfl, rfl⟩ := put_arg HP7.out (by have := HV.out; omega)
                clear hHeld
                go_wp2_with fail
                go_roundw
                case rel => exact ⟨1, _, sp, lf, .inr (.inl ⟨rfl, rfl⟩), rfl, rfl, HT7.out, HH.out, HR.out, HLF.out, HK7.out⟩
                case measure => simp [intOf]
              · have HV : Hid (¬ (s0 = 0 ∨ k0 < 1 ∨ 256 < k0)) := Lib.hid (by omega)
                have f4 : k0 ≤ 256 := by omega
                clear hs hk hg
                have e1 : wr.rangeAt B 1 X := (HBOX.out _ _ HBKr.out).1
                have e2 : wr.cell? ⟨B, 17, none⟩ = some (.int .u32 s0) := (HBOX.out _ _ HBKr.out).2.1
                have e3 : wr.cell? ⟨B, 18, none⟩ = some (.int .u32 k0) := (HBOX.out _ _ HBKr.out).2.2.1
                go_upto_region 9 with fail
                have g1 : wr.drew.rangeAt B 1 X := e1
                have g2 : wr.drew.cell? ⟨B, 17, none⟩ = some (.int .u32 s0) := e2
                have g3 : wr.drew.cell? ⟨B, 18, none⟩ = some (.int .u32 k0) := e3
                have htd : TabAt wr.drew T a := HTB.out.drew
                have hkd : Keeps (· = T) w4 wr.drew := HKr.out.drew
                have HTD := Lib.hid htd
                have HKD := Lib.hid hkd
                clear e1 e2 e3 htd hkd
                refine wp_region_noPanic ?_
                refine wp_region_held_drew (S := (fun w' => w'.rangeAt B 1 X ∧ w'.cell? ⟨B, 17, none⟩ = some (.int .u32 s0) ∧ w'.cell? ⟨B, 18, none⟩ = some (.int .u32 k0))) (by kernel_rfl) ?_ (fun hHeld => ?_)
                · ((try dsimp only); refine ⟨?_, ?_, ?_⟩ <;> (first | assumption | (go_keep; done)))
                refine wpAnyH_take (i := 0) (oi := ⟨some 35, _, _, _, _, _⟩) (v := ?_) rfl (by kernel_rfl) (by kernel_rfl) (by kernel_rfl) (fun _ _ _ h => False.elim h) (Or.inl ⟨by rfl, ?_⟩) (by assumption) ?_
                rotate_left
                · intro w hSw
                  (try dsimp only at hSw)
                  go_simp
                  all_goals with_reducible rfl
                (try simp only [Act.put, List.setIfInBounds_toArray, List.set_cons_zero, List.set_cons_succ])
                refine wpAnyH_take (i := 1) (oi := ⟨some 36, _, _, _, _, _⟩) (v := ?_) rfl (by kernel_rfl) (by kernel_rfl) (by kernel_rfl) (fun _ _ _ h => False.elim h) (Or.inl ⟨by rfl, ?_⟩) (by assumption) ?_
                rotate_left
                · intro w hSw
                  (try dsimp only at hSw)
                  go_simp
                  all_goals with_reducible rfl
                (try simp only [Act.put, List.setIfInBounds_toArray, List.set_cons_zero, List.set_cons_succ])
                refine wpAnyH_take (i := 2) (oi := ⟨some 37, _, _, _, _, _⟩) (v := ?_) rfl (by kernel_rfl) (by kernel_rfl) (by kernel_rfl) (fun _ _ _ h => False.elim h) (Or.inl ⟨by rfl, ?_⟩) (by assumption) ?_
                rotate_left
                · intro w hSw
                  (try dsimp only at hSw)
                  go_simp
                  all_goals with_reducible rfl
                (try simp only [Act.put, List.setIfInBounds_toArray, List.set_cons_zero, List.set_cons_succ])
                refine wpAnyH_take (i := 3) (oi := ⟨some 38, _, _, _, _, _⟩) (v := ?_) rfl (by kernel_rfl) (by kernel_rfl) (by kernel_rfl) (fun _ _ _ h => False.elim h) (Or.inl ⟨by rfl, ?_⟩) (by assumption) ?_
                rotate_left
                · intro w hSw
                  (try dsimp only at hSw)
                  go_simp
                  all_goals with_reducible rfl
                (try simp only [Act.put, List.setIfInBounds_toArray, List.set_cons_zero, List.set_cons_succ])
                refine wpAnyH_take (i := 4) (oi := ⟨some 39, _, _, _, _, _⟩) (v := .agg X.toArray) rfl (by kernel_rfl) (by kernel_rfl) (by kernel_rfl) (fun _ _ _ h => False.elim h) ?_ (by assumption) ?_
                · refine yieldsIf_load_mid ?_ 23 _ rfl B 1 rfl X _ ?_ HUT.out rfl HSX.out
                  · rfl
                  · (intro w hSw; (try dsimp only at hSw); go_split_ands; assumption)
                (try simp only [Act.put, List.setIfInBounds_toArray, List.set_cons_zero, List.set_cons_succ])
                refine wpAnyH_take (i := 5) (oi := ⟨some 40, _, _, _, _, _⟩) (v := ?_) rfl (by kernel_rfl) (by kernel_rfl) (by kernel_rfl) (fun _ _ _ h => False.elim h) (Or.inl ⟨by rfl, ?_⟩) (by assumption) ?_
                rotate_left
                · intro w hSw
                  (try dsimp only at hSw)
                  go_simp
                  all_goals with_reducible rfl
                (try simp only [Act.put, List.setIfInBounds_toArray, List.set_cons_zero, List.set_cons_succ])
                refine wpAnyH_take (i := 6) (oi := ⟨some 41, _, _, _, _, _⟩) (v := ?_) rfl (by kernel_rfl) (by kernel_rfl) (by kernel_rfl) (fun _ _ _ h => False.elim h) (Or.inl ⟨by rfl, ?_⟩) (by assumption) ?_
                rotate_left
                · intro w hSw
                  (try dsimp only at hSw)
                  go_simp
                  all_goals with_reducible rfl
                (try simp only [Act.put, List.setIfInBounds_toArray, List.set_cons_zero, List.set_cons_succ])
                refine wpAnyH_take (i := 7) (oi := ⟨some 42, _, _, _, _, _⟩) (v := ?_) rfl (by kernel_rfl) (by kernel_rfl) (by kernel_rfl) (fun _ _ _ h => False.elim h) (Or.inl ⟨by rfl, ?_⟩) (by assumption) ?_
                rotate_left
                · intro w hSw
                  (try dsimp only at hSw)
                  go_simp
                  all_goals with_reducible rfl
                (try simp only [Act.put, List.setIfInBounds_toArray, List.set_cons_zero, List.set_cons_succ])
                refine wpAnyH_take (i := 8) (oi := ⟨some 43, _, _, _, _, _⟩) (v := ?_) rfl (by kernel_rfl) (by kernel_rfl) (by kernel_rfl) (fun _ _ _ h => False.elim h) (Or.inl ⟨by rfl, ?_⟩) (by assumption) ?_
                rotate_left
                · intro w hSw
                  (try dsimp only at hSw)
                  go_simp
                  all_goals with_reducible rfl
                (try simp only [Act.put, List.setIfInBounds_toArray, List.set_cons_zero, List.set_cons_succ])
                refine wpAnyH_take (i := 9) (oi := ⟨some 44, _, _, _, _, _⟩) (v := ?_) rfl (by kernel_rfl) (by kernel_rfl) (by kernel_rfl) (fun _ _ _ h => False.elim h) (Or.inl ⟨by rfl, ?_⟩) (by assumption) ?_
                rotate_left
                · intro w hSw
                  (try dsimp only at hSw)
                  go_simp
                  all_goals with_reducible rfl
                (try simp only [Act.put, List.setIfInBounds_toArray, List.set_cons_zero, List.set_cons_succ])
                refine wpAnyH_take (i := 10) (oi := ⟨some 45, _, _, _, _, _⟩) (v := ?_) rfl (by kernel_rfl) (by kernel_rfl) (by kernel_rfl) (fun _ _ _ h => False.elim h) (Or.inl ⟨by rfl, ?_⟩) (by assumption) ?_
                rotate_left
                · intro w hSw
                  (try dsimp only at hSw)
                  go_simp
                  all_goals with_reducible rfl
                (try simp only [Act.put, List.setIfInBounds_toArray, List.set_cons_zero, List.set_cons_succ])
                refine wpAnyH_take (i := 11) (oi := ⟨some 46, _, _, _, _, _⟩) (v := ?_) rfl (by kernel_rfl) (by kernel_rfl) (by kernel_rfl) (fun _ _ _ h => False.elim h) (Or.inl ⟨by rfl, ?_⟩) (by assumption) ?_
                rotate_left
                · intro w hSw
                  (try dsimp only at hSw)
                  go_simp
                  all_goals with_reducible rfl
                (try simp only [Act.put, List.setIfInBounds_toArray, List.set_cons_zero, List.set_cons_succ])
                refine wpAnyH_take (i := 12) (oi := ⟨some 47, _, _, _, _, _⟩) (v := ?_) rfl (by kernel_rfl) (by kernel_rfl) (by kernel_rfl) (fun _ _ _ h => False.elim h) (Or.inl ⟨by rfl, ?_⟩) (by assumption) ?_
                rotate_left
                · intro w hSw
                  (try dsimp only at hSw)
                  go_simp
                  all_goals with_reducible rfl
                (try simp only [Act.put, List.setIfInBounds_toArray, List.set_cons_zero, List.set_cons_succ])
                refine wpAnyH_ready (rs := [13]) (by kernel_rfl) (by simp) ?_
                refine AllReadyH.cons (o := ⟨some 48, _, _, _, _, _⟩) rfl (fun K hK => ?_) AllReadyH.nil
                go_simp
                (refine (HPUT.out T a s0 k0 _ HTD.out HH.out.nat HT16.out).mono ?_; rintro e w7 ⟨E7, a7, rfl, hp7, ht7, hk7⟩; have HK7 := Lib.hid (HKD.out.trans hk7); have HBK7 := Lib.hid (HBK4.out.keep HK7.out HBT.out); have g1 : w7.rangeAt B 1 X := (HBOX.out _ _ HBK7.out).1; have g2 : w7.cell? ⟨B, 17, none⟩ = some (.int .u32 s0) := (HBOX.out _ _ HBK7.out).2.1; have g3 : w7.cell? ⟨B, 18, none⟩ = some (.int .u32 k0) := (HBOX.out _ _ HBK7.out).2.2.1; have HT7 := Lib.hid ht7; have HP7 := Lib.hid hp7; clear hp7 ht7 hk7)
                (try go_wp2_with fail)
                refine hK.out _ _ ?_ (fun hHeld => ?_)
                · ((try dsimp only); refine ⟨?_, ?_, ?_⟩ <;> (first | assumption | (go_keep; done)))
                clear hK K
                (try simp only [Act.put, List.setIfInBounds_toArray, List.set_cons_zero, List.set_cons_succ])
                refine wpAnyH_take (i := 14) (oi := ⟨some 9, _, _, _, _, _⟩) (v := ?_) rfl (by kernel_rfl) (by kernel_rfl) (by kernel_rfl) (fun _ _ _ h => False.elim h) (Or.inl ⟨by rfl, ?_⟩) (by assumption) ?_
                rotate_left
                · intro w hSw
                  (try dsimp only at hSw)
                  go_simp
                  all_goals with_reducible rfl
                (try simp only [Act.put, List.setIfInBounds_toArray, List.set_cons_zero, List.set_cons_succ])
                refine wpAnyH_done (by kernel_rfl) ?_ _
                refine NoPanic.normal ?_
                obtain ⟨rfl, hh7⟩ := (HH.out.same HP7.out HR.out).1 (by have := HV.out; omega)
                have HH7 := Lib.hid hh7
                clear hh7 hHeld
                go_wp2_with fail
                go_roundw
                case rel => exact ⟨1, a7, s0, k0, .inr (.inl ⟨rfl, rfl⟩), rfl, rfl, HT7.out, HH7.out, Rm.hold HH7.out (by have := HV.out; omega), (by have := HV.out; omega), HK7.out⟩
                case measure => simp [intOf]
        · have hus := HUS1.out
          by_cases hs : s1 = 0
          · subst hs
            have HV : Hid ((0 : Int) = 0 ∨ k1 < 1 ∨ 256 < k1) := Lib.hid (.inl rfl)
            have e1 : wr.rangeAt B 20 X := (HTYX.out ▸ (HBOX.out _ _ HBKr.out).2.2.2.1)
            have e2 : wr.cell? ⟨B, 36, none⟩ = some (.int .u32 0) := (HBOX.out _ _ HBKr.out).2.2.2.2.1
            have e3 : wr.cell? ⟨B, 37, none⟩ = some (.int .u32 k1) := (HBOX.out _ _ HBKr.out).2.2.2.2.2
            go_upto_region 9 with fail
            have g1 : wr.drew.rangeAt B 20 X := e1
            have g2 : wr.drew.cell? ⟨B, 36, none⟩ = some (.int .u32 0) := e2
            have g3 : wr.drew.cell? ⟨B, 37, none⟩ = some (.int .u32 k1) := e3
            have htd : TabAt wr.drew T a := HTB.out.drew
            have hkd : Keeps (· = T) w4 wr.drew := HKr.out.drew
            have HTD := Lib.hid htd
            have HKD := Lib.hid hkd
            clear e1 e2 e3 htd hkd
            refine wp_region_noPanic ?_
            refine wp_region_held_drew (S := (fun w' => w'.rangeAt B 20 X ∧ w'.cell? ⟨B, 36, none⟩ = some (.int .u32 0) ∧ w'.cell? ⟨B, 37, none⟩ = some (.int .u32 k1))) (by kernel_rfl) ?_ (fun hHeld => ?_)
            · ((try dsimp only); refine ⟨?_, ?_, ?_⟩ <;> (first | assumption | (go_keep; done)))
            refine wpAnyH_take (i := 0) (oi := ⟨some 35, _, _, _, _, _⟩) (v := ?_) rfl (by kernel_rfl) (by kernel_rfl) (by kernel_rfl) (fun _ _ _ h => False.elim h) (Or.inl ⟨by rfl, ?_⟩) (by assumption) ?_
            rotate_left
            · intro w hSw
              (try dsimp only at hSw)
              go_simp
              all_goals with_reducible rfl
            (try simp only [Act.put, List.setIfInBounds_toArray, List.set_cons_zero, List.set_cons_succ])
            refine wpAnyH_take (i := 1) (oi := ⟨some 36, _, _, _, _, _⟩) (v := ?_) rfl (by kernel_rfl) (by kernel_rfl) (by kernel_rfl) (fun _ _ _ h => False.elim h) (Or.inl ⟨by rfl, ?_⟩) (by assumption) ?_
            rotate_left
            · intro w hSw
              (try dsimp only at hSw)
              go_simp
              all_goals with_reducible rfl
            (try simp only [Act.put, List.setIfInBounds_toArray, List.set_cons_zero, List.set_cons_succ])
            refine wpAnyH_take (i := 2) (oi := ⟨some 37, _, _, _, _, _⟩) (v := ?_) rfl (by kernel_rfl) (by kernel_rfl) (by kernel_rfl) (fun _ _ _ h => False.elim h) (Or.inl ⟨by rfl, ?_⟩) (by assumption) ?_
            rotate_left
            · intro w hSw
              (try dsimp only at hSw)
              go_simp
              all_goals with_reducible rfl
            (try simp only [Act.put, List.setIfInBounds_toArray, List.set_cons_zero, List.set_cons_succ])
            refine wpAnyH_take (i := 3) (oi := ⟨some 38, _, _, _, _, _⟩) (v := ?_) rfl (by kernel_rfl) (by kernel_rfl) (by kernel_rfl) (fun _ _ _ h => False.elim h) (Or.inl ⟨by rfl, ?_⟩) (by assumption) ?_
            rotate_left
            · intro w hSw
              (try dsimp only at hSw)
              go_simp
              all_goals with_reducible rfl
            (try simp only [Act.put, List.setIfInBounds_toArray, List.set_cons_zero, List.set_cons_succ])
            refine wpAnyH_take (i := 4) (oi := ⟨some 39, _, _, _, _, _⟩) (v := .agg X.toArray) rfl (by kernel_rfl) (by kernel_rfl) (by kernel_rfl) (fun _ _ _ h => False.elim h) ?_ (by assumption) ?_
            · refine yieldsIf_load_mid ?_ 23 _ rfl B 20 rfl X _ ?_ HUT.out rfl HSX.out
              · rfl
              · (intro w hSw; (try dsimp only at hSw); go_split_ands; assumption)
            (try simp only [Act.put, List.setIfInBounds_toArray, List.set_cons_zero, List.set_cons_succ])
            refine wpAnyH_take (i := 5) (oi := ⟨some 40, _, _, _, _, _⟩) (v := ?_) rfl (by kernel_rfl) (by kernel_rfl) (by kernel_rfl) (fun _ _ _ h => False.elim h) (Or.inl ⟨by rfl, ?_⟩) (by assumption) ?_
            rotate_left
            · intro w hSw
              (try dsimp only at hSw)
              go_simp
              all_goals with_reducible rfl
            (try simp only [Act.put, List.setIfInBounds_toArray, List.set_cons_zero, List.set_cons_succ])
            refine wpAnyH_take (i := 6) (oi := ⟨some 41, _, _, _, _, _⟩) (v := ?_) rfl (by kernel_rfl) (by kernel_rfl) (by kernel_rfl) (fun _ _ _ h => False.elim h) (Or.inl ⟨by rfl, ?_⟩) (by assumption) ?_
            rotate_left
            · intro w hSw
              (try dsimp only at hSw)
              go_simp
              all_goals with_reducible rfl
            (try simp only [Act.put, List.setIfInBounds_toArray, List.set_cons_zero, List.set_cons_succ])
            refine wpAnyH_take (i := 7) (oi := ⟨some 42, _, _, _, _, _⟩) (v := ?_) rfl (by kernel_rfl) (by kernel_rfl) (by kernel_rfl) (fun _ _ _ h => False.elim h) (Or.inl ⟨by rfl, ?_⟩) (by assumption) ?_
            rotate_left
            · intro w hSw
              (try dsimp only at hSw)
              go_simp
              all_goals with_reducible rfl
            (try simp only [Act.put, List.setIfInBounds_toArray, List.set_cons_zero, List.set_cons_succ])
            refine wpAnyH_take (i := 8) (oi := ⟨some 43, _, _, _, _, _⟩) (v := ?_) rfl (by kernel_rfl) (by kernel_rfl) (by kernel_rfl) (fun _ _ _ h => False.elim h) (Or.inl ⟨by rfl, ?_⟩) (by assumption) ?_
            rotate_left
            · intro w hSw
              (try dsimp only at hSw)
              go_simp
              all_goals with_reducible rfl
            (try simp only [Act.put, List.setIfInBounds_toArray, List.set_cons_zero, List.set_cons_succ])
            refine wpAnyH_take (i := 9) (oi := ⟨some 44, _, _, _, _, _⟩) (v := ?_) rfl (by kernel_rfl) (by kernel_rfl) (by kernel_rfl) (fun _ _ _ h => False.elim h) (Or.inl ⟨by rfl, ?_⟩) (by assumption) ?_
            rotate_left
            · intro w hSw
              (try dsimp only at hSw)
              go_simp
              all_goals with_reducible rfl
            (try simp only [Act.put, List.setIfInBounds_toArray, List.set_cons_zero, List.set_cons_succ])
            refine wpAnyH_take (i := 10) (oi := ⟨some 45, _, _, _, _, _⟩) (v := ?_) rfl (by kernel_rfl) (by kernel_rfl) (by kernel_rfl) (fun _ _ _ h => False.elim h) (Or.inl ⟨by rfl, ?_⟩) (by assumption) ?_
            rotate_left
            · intro w hSw
              (try dsimp only at hSw)
              go_simp
              all_goals with_reducible rfl
            (try simp only [Act.put, List.setIfInBounds_toArray, List.set_cons_zero, List.set_cons_succ])
            refine wpAnyH_take (i := 11) (oi := ⟨some 46, _, _, _, _, _⟩) (v := ?_) rfl (by kernel_rfl) (by kernel_rfl) (by kernel_rfl) (fun _ _ _ h => False.elim h) (Or.inl ⟨by rfl, ?_⟩) (by assumption) ?_
            rotate_left
            · intro w hSw
              (try dsimp only at hSw)
              go_simp
              all_goals with_reducible rfl
            (try simp only [Act.put, List.setIfInBounds_toArray, List.set_cons_zero, List.set_cons_succ])
            refine wpAnyH_take (i := 12) (oi := ⟨some 47, _, _, _, _, _⟩) (v := ?_) rfl (by kernel_rfl) (by kernel_rfl) (by kernel_rfl) (fun _ _ _ h => False.elim h) (Or.inl ⟨by rfl, ?_⟩) (by assumption) ?_
            rotate_left
            · intro w hSw
              (try dsimp only at hSw)
              go_simp
              all_goals with_reducible rfl
            (try simp only [Act.put, List.setIfInBounds_toArray, List.set_cons_zero, List.set_cons_succ])
            refine wpAnyH_ready (rs := [13]) (by kernel_rfl) (by simp) ?_
            refine AllReadyH.cons (o := ⟨some 48, _, _, _, _, _⟩) rfl (fun K hK => ?_) AllReadyH.nil
            go_simp
            (refine (HPUT.out T a 0 k1 _ HTD.out HH.out.nat HT16.out).mono ?_; rintro e w7 ⟨E7, a7, rfl, hp7, ht7, hk7⟩; have HK7 := Lib.hid (HKD.out.trans hk7); have HBK7 := Lib.hid (HBK4.out.keep HK7.out HBT.out); have g1 : w7.rangeAt B 20 X := (HTYX.out ▸ (HBOX.out _ _ HBK7.out).2.2.2.1); have g2 : w7.cell? ⟨B, 36, none⟩ = some (.int .u32 0) := (HBOX.out _ _ HBK7.out).2.2.2.2.1; have g3 : w7.cell? ⟨B, 37, none⟩ = some (.int .u32 k1) := (HBOX.out _ _ HBK7.out).2.2.2.2.2; have HT7 := Lib.hid ht7; have HP7 := Lib.hid hp7; clear hp7 ht7 hk7)
            (try go_wp2_with fail)
            refine hK.out _ _ ?_ (fun hHeld => ?_)
            · ((try dsimp only); refine ⟨?_, ?_, ?_⟩ <;> (first | assumption | (go_keep; done)))
            clear hK K
            (try simp only [Act.put, List.setIfInBounds_toArray, List.set_cons_zero, List.set_cons_succ])
            refine wpAnyH_take (i := 14) (oi := ⟨some 9, _, _, _, _, _⟩) (v := ?_) rfl (by kernel_rfl) (by kernel_rfl) (by kernel_rfl) (fun _ _ _ h => False.elim h) (Or.inl ⟨by rfl, ?_⟩) (by assumption) ?_
            rotate_left
            · intro w hSw
              (try dsimp only at hSw)
              go_simp
              all_goals with_reducible rfl
            (try simp only [Act.put, List.setIfInBounds_toArray, List.set_cons_zero, List.set_cons_succ])
            refine wpAnyH_done (by kernel_rfl) ?_ _
            refine NoPanic.normal ?_
            obtain ⟨rfl, rfl⟩ := put_arg HP7.out (by have := HV.out; omega)
            clear hHeld
            go_wp2_with fail
            go_roundw
            case rel => exact ⟨2, _, sp, lf, .inr (.inr ⟨rfl, rfl⟩), rfl, rfl, HT7.out, HH.out, HR.out, HLF.out, HK7.out⟩
            case measure => simp [intOf]
          · have f1 : (s1 == 0) = false := by simpa using hs
            have f2 : (s1 != 0) = true := by simp [f1, bne]
            by_cases hk : k1 < 1
            · have HV : Hid (s1 = 0 ∨ k1 < 1 ∨ 256 < k1) := Lib.hid (.inr (.inl hk))
              have f3 : ¬ 1 ≤ k1 := by omega
              clear hs hk
              have e1 : wr.rangeAt B 20 X := (HTYX.out ▸ (HBOX.out _ _ HBKr.out).2.2.2.1)
              have e2 : wr.cell? ⟨B, 36, none⟩ = some (.int .u32 s1) := (HBOX.out _ _ HBKr.out).2.2.2.2.1
              have e3 : wr.cell? ⟨B, 37, none⟩ = some (.int .u32 k1) := (HBOX.out _ _ HBKr.out).2.2.2.2.2
              go_upto_region 9 with fail
              have g1 : wr.drew.rangeAt B 20 X := e1
              have g2 : wr.drew.cell? ⟨B, 36, none⟩ = some (.int .u32 s1) := e2
              have g3 : wr.drew.cell? ⟨B, 37, none⟩ = some (.int .u32 k1) := e3
              have htd : TabAt wr.drew T a := HTB.out.drew
              have hkd : Keeps (· = T) w4 wr.drew := HKr.out.drew
              have HTD := Lib.hid htd
              have HKD := Lib.hid hkd
              clear e1 e2 e3 htd hkd
              refine wp_region_noPanic ?_
              refine wp_region_held_drew (S := (fun w' => w'.rangeAt B 20 X ∧ w'.cell? ⟨B, 36, none⟩ = some (.int .u32 s1) ∧ w'.cell? ⟨B, 37, none⟩ = some (.int .u32 k1))) (by kernel_rfl) ?_ (fun hHeld => ?_)
              · ((try dsimp only); refine ⟨?_, ?_, ?_⟩ <;> (first | assumption | (go_keep; done)))
              refine wpAnyH_take (i := 0) (oi := ⟨some 35, _, _, _, _, _⟩) (v := ?_) rfl (by kernel_rfl) (by kernel_rfl) (by kernel_rfl) (fun _ _ _ h => False.elim h) (Or.inl ⟨by rfl, ?_⟩) (by assumption) ?_
              rotate_left
              · intro w hSw
                (try dsimp only at hSw)
                go_simp
                all_goals with_reducible rfl
              (try simp only [Act.put, List.setIfInBounds_toArray, List.set_cons_zero, List.set_cons_succ])
              refine wpAnyH_take (i := 1) (oi := ⟨some 36, _, _, _, _, _⟩) (v := ?_) rfl (by kernel_rfl) (by kernel_rfl) (by kernel_rfl) (fun _ _ _ h => False.elim h) (Or.inl ⟨by rfl, ?_⟩) (by assumption) ?_
              rotate_left
              · intro w hSw
                (try dsimp only at hSw)
                go_simp
                all_goals with_reducible rfl
              (try simp only [Act.put, List.setIfInBounds_toArray, List.set_cons_zero, List.set_cons_succ])
              refine wpAnyH_take (i := 2) (oi := ⟨some 37, _, _, _, _, _⟩) (v := ?_) rfl (by kernel_rfl) (by kernel_rfl) (by kernel_rfl) (fun _ _ _ h => False.elim h) (Or.inl ⟨by rfl, ?_⟩) (by assumption) ?_
              rotate_left
              · intro w hSw
                (try dsimp only at hSw)
                go_simp
                all_goals with_reducible rfl
              (try simp only [Act.put, List.setIfInBounds_toArray, List.set_cons_zero, List.set_cons_succ])
              refine wpAnyH_take (i := 3) (oi := ⟨some 38, _, _, _, _, _⟩) (v := ?_) rfl (by kernel_rfl) (by kernel_rfl) (by kernel_rfl) (fun _ _ _ h => False.elim h) (Or.inl ⟨by rfl, ?_⟩) (by assumption) ?_
              rotate_left
              · intro w hSw
                (try dsimp only at hSw)
                go_simp
                all_goals with_reducible rfl
              (try simp only [Act.put, List.setIfInBounds_toArray, List.set_cons_zero, List.set_cons_succ])
              refine wpAnyH_take (i := 4) (oi := ⟨some 39, _, _, _, _, _⟩) (v := .agg X.toArray) rfl (by kernel_rfl) (by kernel_rfl) (by kernel_rfl) (fun _ _ _ h => False.elim h) ?_ (by assumption) ?_
              · refine yieldsIf_load_mid ?_ 23 _ rfl B 20 rfl X _ ?_ HUT.out rfl HSX.out
                · rfl
                · (intro w hSw; (try dsimp only at hSw); go_split_ands; assumption)
              (try simp only [Act.put, List.setIfInBounds_toArray, List.set_cons_zero, List.set_cons_succ])
              refine wpAnyH_take (i := 5) (oi := ⟨some 40, _, _, _, _, _⟩) (v := ?_) rfl (by kernel_rfl) (by kernel_rfl) (by kernel_rfl) (fun _ _ _ h => False.elim h) (Or.inl ⟨by rfl, ?_⟩) (by assumption) ?_
              rotate_left
              · intro w hSw
                (try dsimp only at hSw)
                go_simp
                all_goals with_reducible rfl
              (try simp only [Act.put, List.setIfInBounds_toArray, List.set_cons_zero, List.set_cons_succ])
              refine wpAnyH_take (i := 6) (oi := ⟨some 41, _, _, _, _, _⟩) (v := ?_) rfl (by kernel_rfl) (by kernel_rfl) (by kernel_rfl) (fun _ _ _ h => False.elim h) (Or.inl ⟨by rfl, ?_⟩) (by assumption) ?_
              rotate_left
              · intro w hSw
                (try dsimp only at hSw)
                go_simp
                all_goals with_reducible rfl
              (try simp only [Act.put, List.setIfInBounds_toArray, List.set_cons_zero, List.set_cons_succ])
              refine wpAnyH_take (i := 7) (oi := ⟨some 42, _, _, _, _, _⟩) (v := ?_) rfl (by kernel_rfl) (by kernel_rfl) (by kernel_rfl) (fun _ _ _ h => False.elim h) (Or.inl ⟨by rfl, ?_⟩) (by assumption) ?_
              rotate_left
              · intro w hSw
                (try dsimp only at hSw)
                go_simp
                all_goals with_reducible rfl
              (try simp only [Act.put, List.setIfInBounds_toArray, List.set_cons_zero, List.set_cons_succ])
              refine wpAnyH_take (i := 8) (oi := ⟨some 43, _, _, _, _, _⟩) (v := ?_) rfl (by kernel_rfl) (by kernel_rfl) (by kernel_rfl) (fun _ _ _ h => False.elim h) (Or.inl ⟨by rfl, ?_⟩) (by assumption) ?_
              rotate_left
              · intro w hSw
                (try dsimp only at hSw)
                go_simp
                all_goals with_reducible rfl
              (try simp only [Act.put, List.setIfInBounds_toArray, List.set_cons_zero, List.set_cons_succ])
              refine wpAnyH_take (i := 9) (oi := ⟨some 44, _, _, _, _, _⟩) (v := ?_) rfl (by kernel_rfl) (by kernel_rfl) (by kernel_rfl) (fun _ _ _ h => False.elim h) (Or.inl ⟨by rfl, ?_⟩) (by assumption) ?_
              rotate_left
              · intro w hSw
                (try dsimp only at hSw)
                go_simp
                all_goals with_reducible rfl
              (try simp only [Act.put, List.setIfInBounds_toArray, List.set_cons_zero, List.set_cons_succ])
              refine wpAnyH_take (i := 10) (oi := ⟨some 45, _, _, _, _, _⟩) (v := ?_) rfl (by kernel_rfl) (by kernel_rfl) (by kernel_rfl) (fun _ _ _ h => False.elim h) (Or.inl ⟨by rfl, ?_⟩) (by assumption) ?_
              rotate_left
              · intro w hSw
                (try dsimp only at hSw)
                go_simp
                all_goals with_reducible rfl
              (try simp only [Act.put, List.setIfInBounds_toArray, List.set_cons_zero, List.set_cons_succ])
              refine wpAnyH_take (i := 11) (oi := ⟨some 46, _, _, _, _, _⟩) (v := ?_) rfl (by kernel_rfl) (by kernel_rfl) (by kernel_rfl) (fun _ _ _ h => False.elim h) (Or.inl ⟨by rfl, ?_⟩) (by assumption) ?_
              rotate_left
              · intro w hSw
                (try dsimp only at hSw)
                go_simp
                all_goals with_reducible rfl
              (try simp only [Act.put, List.setIfInBounds_toArray, List.set_cons_zero, List.set_cons_succ])
              refine wpAnyH_take (i := 12) (oi := ⟨some 47, _, _, _, _, _⟩) (v := ?_) rfl (by kernel_rfl) (by kernel_rfl) (by kernel_rfl) (fun _ _ _ h => False.elim h) (Or.inl ⟨by rfl, ?_⟩) (by assumption) ?_
              rotate_left
              · intro w hSw
                (try dsimp only at hSw)
                go_simp
                all_goals with_reducible rfl
              (try simp only [Act.put, List.setIfInBounds_toArray, List.set_cons_zero, List.set_cons_succ])
              refine wpAnyH_ready (rs := [13]) (by kernel_rfl) (by simp) ?_
              refine AllReadyH.cons (o := ⟨some 48, _, _, _, _, _⟩) rfl (fun K hK => ?_) AllReadyH.nil
              go_simp
              (refine (HPUT.out T a s1 k1 _ HTD.out HH.out.nat HT16.out).mono ?_; rintro e w7 ⟨E7, a7, rfl, hp7, ht7, hk7⟩; have HK7 := Lib.hid (HKD.out.trans hk7); have HBK7 := Lib.hid (HBK4.out.keep HK7.out HBT.out); have g1 : w7.rangeAt B 20 X := (HTYX.out ▸ (HBOX.out _ _ HBK7.out).2.2.2.1); have g2 : w7.cell? ⟨B, 36, none⟩ = some (.int .u32 s1) := (HBOX.out _ _ HBK7.out).2.2.2.2.1; have g3 : w7.cell? ⟨B, 37, none⟩ = some (.int .u32 k1) := (HBOX.out _ _ HBK7.out).2.2.2.2.2; have HT7 := Lib.hid ht7; have HP7 := Lib.hid hp7; clear hp7 ht7 hk7)
              (try go_wp2_with fail)
              refine hK.out _ _ ?_ (fun hHeld => ?_)
              · ((try dsimp only); refine ⟨?_, ?_, ?_⟩ <;> (first | assumption | (go_keep; done)))
              clear hK K
              (try simp only [Act.put, List.setIfInBounds_toArray, List.set_cons_zero, List.set_cons_succ])
              refine wpAnyH_take (i := 14) (oi := ⟨some 9, _, _, _, _, _⟩) (v := ?_) rfl (by kernel_rfl) (by kernel_rfl) (by kernel_rfl) (fun _ _ _ h => False.elim h) (Or.inl ⟨by rfl, ?_⟩) (by assumption) ?_
              rotate_left
              · intro w hSw
                (try dsimp only at hSw)
                go_simp
                all_goals with_reducible rfl
              (try simp only [Act.put, List.setIfInBounds_toArray, List.set_cons_zero, List.set_cons_succ])
              refine wpAnyH_done (by kernel_rfl) ?_ _
              refine NoPanic.normal ?_
              obtain ⟨rfl, rfl⟩ := put_arg HP7.out (by have := HV.out; omega)
              clear hHeld
              go_wp2_with fail
              go_roundw
              case rel => exact ⟨2, _, sp, lf, .inr (.inr ⟨rfl, rfl⟩), rfl, rfl, HT7.out, HH.out, HR.out, HLF.out, HK7.out⟩
              case measure => simp [intOf]
            · have f3 : 1 ≤ k1 := by omega
              by_cases hg : 256 < k1
              · have HV : Hid (s1 = 0 ∨ k1 < 1 ∨ 256 < k1) := Lib.hid (.inr (.inr hg))
                have f4 : ¬ k1 ≤ 256 := by omega
                clear hs hk hg
                have e1 : wr.rangeAt B 20 X := (HTYX.out ▸ (HBOX.out _ _ HBKr.out).2.2.2.1)
                have e2 : wr.cell? ⟨B, 36, none⟩ = some (.int .u32 s1) := (HBOX.out _ _ HBKr.out).2.2.2.2.1
                have e3 : wr.cell? ⟨B, 37, none⟩ = some (.int .u32 k1) := (HBOX.out _ _ HBKr.out).2.2.2.2.2
                go_upto_region 9 with fail
                have g1 : wr.drew.rangeAt B 20 X := e1
                have g2 : wr.drew.cell? ⟨B, 36, none⟩ = some (.int .u32 s1) := e2
                have g3 : wr.drew.cell? ⟨B, 37, none⟩ = some (.int .u32 k1) := e3
                have htd : TabAt wr.drew T a := HTB.out.drew
                have hkd : Keeps (· = T) w4 wr.drew := HKr.out.drew
                have HTD := Lib.hid htd
                have HKD := Lib.hid hkd
                clear e1 e2 e3 htd hkd
                refine wp_region_noPanic ?_
                refine wp_region_held_drew (S := (fun w' => w'.rangeAt B 20 X ∧ w'.cell? ⟨B, 36, none⟩ = some (.int .u32 s1) ∧ w'.cell? ⟨B, 37, none⟩ = some (.int .u32 k1))) (by kernel_rfl) ?_ (fun hHeld => ?_)
                · ((try dsimp only); refine ⟨?_, ?_, ?_⟩ <;> (first | assumption | (go_keep; done)))
                refine wpAnyH_take (i := 0) (oi := ⟨some 35, _, _, _, _, _⟩) (v := ?_) rfl (by kernel_rfl) (by kernel_rfl) (by kernel_rfl) (fun _ _ _ h => False.elim h) (Or.inl ⟨by rfl, ?_⟩) (by assumption) ?_
                rotate_left
                · intro w hSw
                  (try dsimp only at hSw)
                  go_simp
                  all_goals with_reducible rfl
                (try simp only [Act.put, List.setIfInBounds_toArray, List.set_cons_zero, List.set_cons_succ])
                refine wpAnyH_take (i := 1) (oi := ⟨some 36, _, _, _, _, _⟩) (v := ?_) rfl (by kernel_rfl) (by kernel_rfl) (by kernel_rfl) (fun _ _ _ h => False.elim h) (Or.inl ⟨by rfl, ?_⟩) (by assumption) ?_
                rotate_left
                · intro w hSw
                  (try dsimp only at hSw)
                  go_simp
                  all_goals with_reducible rfl
                (try simp only [Act.put, List.setIfInBounds_toArray, List.set_cons_zero, List.set_cons_succ])
                refine wpAnyH_take (i := 2) (oi := ⟨some 37, _, _, _, _, _⟩) (v := ?_) rfl (by kernel_rfl) (by kernel_rfl) (by kernel_rfl) (fun _ _ _ h => False.elim h) (Or.inl ⟨by rfl, ?_⟩) (by assumption) ?_
                rotate_left
                · intro w hSw
                  (try dsimp only at hSw)
                  go_simp
                  all_goals with_reducible rfl
                (try simp only [Act.put, List.setIfInBounds_toArray, List.set_cons_zero, List.set_cons_succ])
                refine wpAnyH_take (i := 3) (oi := ⟨some 38, _, _, _, _, _⟩) (v := ?_) rfl (by kernel_rfl) (by kernel_rfl) (by kernel_rfl) (fun _ _ _ h => False.elim h) (Or.inl ⟨by rfl, ?_⟩) (by assumption) ?_
                rotate_left
                · intro w hSw
                  (try dsimp only at hSw)
                  go_simp
                  all_goals with_reducible rfl
                (try simp only [Act.put, List.setIfInBounds_toArray, List.set_cons_zero, List.set_cons_succ])
                refine wpAnyH_take (i := 4) (oi := ⟨some 39, _, _, _, _, _⟩) (v := .agg X.toArray) rfl (by kernel_rfl) (by kernel_rfl) (by kernel_rfl) (fun _ _ _ h => False.elim h) ?_ (by assumption) ?_
                · refine yieldsIf_load_mid ?_ 23 _ rfl B 20 rfl X _ ?_ HUT.out rfl HSX.out
                  · rfl
                  · (intro w hSw; (try dsimp only at hSw); go_split_ands; assumption)
                (try simp only [Act.put, List.setIfInBounds_toArray, List.set_cons_zero, List.set_cons_succ])
                refine wpAnyH_take (i := 5) (oi := ⟨some 40, _, _, _, _, _⟩) (v := ?_) rfl (by kernel_rfl) (by kernel_rfl) (by kernel_rfl) (fun _ _ _ h => False.elim h) (Or.inl ⟨by rfl, ?_⟩) (by assumption) ?_
                rotate_left
                · intro w hSw
                  (try dsimp only at hSw)
                  go_simp
                  all_goals with_reducible rfl
                (try simp only [Act.put, List.setIfInBounds_toArray, List.set_cons_zero, List.set_cons_succ])
                refine wpAnyH_take (i := 6) (oi := ⟨some 41, _, _, _, _, _⟩) (v := ?_) rfl (by kernel_rfl) (by kernel_rfl) (by kernel_rfl) (fun _ _ _ h => False.elim h) (Or.inl ⟨by rfl, ?_⟩) (by assumption) ?_
                rotate_left
                · intro w hSw
                  (try dsimp only at hSw)
                  go_simp
                  all_goals with_reducible rfl
                (try simp only [Act.put, List.setIfInBounds_toArray, List.set_cons_zero, List.set_cons_succ])
                refine wpAnyH_take (i := 7) (oi := ⟨some 42, _, _, _, _, _⟩) (v := ?_) rfl (by kernel_rfl) (by kernel_rfl) (by kernel_rfl) (fun _ _ _ h => False.elim h) (Or.inl ⟨by rfl, ?_⟩) (by assumption) ?_
                rotate_left
                · intro w hSw
                  (try dsimp only at hSw)
                  go_simp
                  all_goals with_reducible rfl
                (try simp only [Act.put, List.setIfInBounds_toArray, List.set_cons_zero, List.set_cons_succ])
                refine wpAnyH_take (i := 8) (oi := ⟨some 43, _, _, _, _, _⟩) (v := ?_) rfl (by kernel_rfl) (by kernel_rfl) (by kernel_rfl) (fun _ _ _ h => False.elim h) (Or.inl ⟨by rfl, ?_⟩) (by assumption) ?_
                rotate_left
                · intro w hSw
                  (try dsimp only at hSw)
                  go_simp
                  all_goals with_reducible rfl
                (try simp only [Act.put, List.setIfInBounds_toArray, List.set_cons_zero, List.set_cons_succ])
                refine wpAnyH_take (i := 9) (oi := ⟨some 44, _, _, _, _, _⟩) (v := ?_) rfl (by kernel_rfl) (by kernel_rfl) (by kernel_rfl) (fun _ _ _ h => False.elim h) (Or.inl ⟨by rfl, ?_⟩) (by assumption) ?_
                rotate_left
                · intro w hSw
                  (try dsimp only at hSw)
                  go_simp
                  all_goals with_reducible rfl
                (try simp only [Act.put, List.setIfInBounds_toArray, List.set_cons_zero, List.set_cons_succ])
                refine wpAnyH_take (i := 10) (oi := ⟨some 45, _, _, _, _, _⟩) (v := ?_) rfl (by kernel_rfl) (by kernel_rfl) (by kernel_rfl) (fun _ _ _ h => False.elim h) (Or.inl ⟨by rfl, ?_⟩) (by assumption) ?_
                rotate_left
                · intro w hSw
                  (try dsimp only at hSw)
                  go_simp
                  all_goals with_reducible rfl
                (try simp only [Act.put, List.setIfInBounds_toArray, List.set_cons_zero, List.set_cons_succ])
                refine wpAnyH_take (i := 11) (oi := ⟨some 46, _, _, _, _, _⟩) (v := ?_) rfl (by kernel_rfl) (by kernel_rfl) (by kernel_rfl) (fun _ _ _ h => False.elim h) (Or.inl ⟨by rfl, ?_⟩) (by assumption) ?_
                rotate_left
                · intro w hSw
                  (try dsimp only at hSw)
                  go_simp
                  all_goals with_reducible rfl
                (try simp only [Act.put, List.setIfInBounds_toArray, List.set_cons_zero, List.set_cons_succ])
                refine wpAnyH_take (i := 12) (oi := ⟨some 47, _, _, _, _, _⟩) (v := ?_) rfl (by kernel_rfl) (by kernel_rfl) (by kernel_rfl) (fun _ _ _ h => False.elim h) (Or.inl ⟨by rfl, ?_⟩) (by assumption) ?_
                rotate_left
                · intro w hSw
                  (try dsimp only at hSw)
                  go_simp
                  all_goals with_reducible rfl
                (try simp only [Act.put, List.setIfInBounds_toArray, List.set_cons_zero, List.set_cons_succ])
                refine wpAnyH_ready (rs := [13]) (by kernel_rfl) (by simp) ?_
                refine AllReadyH.cons (o := ⟨some 48, _, _, _, _, _⟩) rfl (fun K hK => ?_) AllReadyH.nil
                go_simp
                (refine (HPUT.out T a s1 k1 _ HTD.out HH.out.nat HT16.out).mono ?_; rintro e w7 ⟨E7, a7, rfl, hp7, ht7, hk7⟩; have HK7 := Lib.hid (HKD.out.trans hk7); have HBK7 := Lib.hid (HBK4.out.keep HK7.out HBT.out); have g1 : w7.rangeAt B 20 X := (HTYX.out ▸ (HBOX.out _ _ HBK7.out).2.2.2.1); have g2 : w7.cell? ⟨B, 36, none⟩ = some (.int .u32 s1) := (HBOX.out _ _ HBK7.out).2.2.2.2.1; have g3 : w7.cell? ⟨B, 37, none⟩ = some (.int .u32 k1) := (HBOX.out _ _ HBK7.out).2.2.2.2.2; have HT7 := Lib.hid ht7; have HP7 := Lib.hid hp7; clear hp7 ht7 hk7)
                (try go_wp2_with fail)
                refine hK.out _ _ ?_ (fun hHeld => ?_)
                · ((try dsimp only); refine ⟨?_, ?_, ?_⟩ <;> (first | assumption | (go_keep; done)))
                clear hK K
                (try simp only [Act.put, List.setIfInBounds_toArray, List.set_cons_zero, List.set_cons_succ])
                refine wpAnyH_take (i := 14) (oi := ⟨some 9, _, _, _, _, _⟩) (v := ?_) rfl (by kernel_rfl) (by kernel_rfl) (by kernel_rfl) (fun _ _ _ h => False.elim h) (Or.inl ⟨by rfl, ?_⟩) (by assumption) ?_
                rotate_left
                · intro w hSw
                  (try dsimp only at hSw)
                  go_simp
                  all_goals with_reducible rfl
                (try simp only [Act.put, List.setIfInBounds_toArray, List.set_cons_zero, List.set_cons_succ])
                refine wpAnyH_done (by kernel_rfl) ?_ _
                refine NoPanic.normal ?_
                obtain ⟨rfl, rfl⟩ := put_arg HP7.out (by have := HV.out; omega)
                clear hHeld
                go_wp2_with fail
                go_roundw
                case rel => exact ⟨2, _, sp, lf, .inr (.inr ⟨rfl, rfl⟩), rfl, rfl, HT7.out, HH.out, HR.out, HLF.out, HK7.out⟩
                case measure => simp [intOf]
              · have HV : Hid (¬ (s1 = 0 ∨ k1 < 1 ∨ 256 < k1)) := Lib.hid (by omega)
                have f4 : k1 ≤ 256 := by omega
                clear hs hk hg
                have e1 : wr.rangeAt B 20 X := (HTYX.out ▸ (HBOX.out _ _ HBKr.out).2.2.2.1)
                have e2 : wr.cell? ⟨B, 36, none⟩ = some (.int .u32 s1) := (HBOX.out _ _ HBKr.out).2.2.2.2.1
                have e3 : wr.cell? ⟨B, 37, none⟩ = some (.int .u32 k1) := (HBOX.out _ _ HBKr.out).2.2.2.2.2
                go_upto_region 9 with fail
                have g1 : wr.drew.rangeAt B 20 X := e1
                have g2 : wr.drew.cell? ⟨B, 36, none⟩ = some (.int .u32 s1) := e2
                have g3 : wr.drew.cell? ⟨B, 37, none⟩ = some (.int .u32 k1) := e3
                have htd : TabAt wr.drew T a := HTB.out.drew
                have hkd : Keeps (· = T) w4 wr.drew := HKr.out.drew
                have HTD := Lib.hid htd
                have HKD := Lib.hid hkd
                clear e1 e2 e3 htd hkd
                refine wp_region_noPanic ?_
                refine wp_region_held_drew (S := (fun w' => w'.rangeAt B 20 X ∧ w'.cell? ⟨B, 36, none⟩ = some (.int .u32 s1) ∧ w'.cell? ⟨B, 37, none⟩ = some (.int .u32 k1))) (by kernel_rfl) ?_ (fun hHeld => ?_)
                · ((try dsimp only); refine ⟨?_, ?_, ?_⟩ <;> (first | assumption | (go_keep; done)))
                refine wpAnyH_take (i := 0) (oi := ⟨some 35, _, _, _, _, _⟩) (v := ?_) rfl (by kernel_rfl) (by kernel_rfl) (by kernel_rfl) (fun _ _ _ h => False.elim h) (Or.inl ⟨by rfl, ?_⟩) (by assumption) ?_
                rotate_left
                · intro w hSw
                  (try dsimp only at hSw)
                  go_simp
                  all_goals with_reducible rfl
                (try simp only [Act.put, List.setIfInBounds_toArray, List.set_cons_zero, List.set_cons_succ])
                refine wpAnyH_take (i := 1) (oi := ⟨some 36, _, _, _, _, _⟩) (v := ?_) rfl (by kernel_rfl) (by kernel_rfl) (by kernel_rfl) (fun _ _ _ h => False.elim h) (Or.inl ⟨by rfl, ?_⟩) (by assumption) ?_
                rotate_left
                · intro w hSw
                  (try dsimp only at hSw)
                  go_simp
                  all_goals with_reducible rfl
                (try simp only [Act.put, List.setIfInBounds_toArray, List.set_cons_zero, List.set_cons_succ])
                refine wpAnyH_take (i := 2) (oi := ⟨some 37, _, _, _, _, _⟩) (v := ?_) rfl (by kernel_rfl) (by kernel_rfl) (by kernel_rfl) (fun _ _ _ h => False.elim h) (Or.inl ⟨by rfl, ?_⟩) (by assumption) ?_
                rotate_left
                · intro w hSw
                  (try dsimp only at hSw)
                  go_simp
                  all_goals with_reducible rfl
                (try simp only [Act.put, List.setIfInBounds_toArray, List.set_cons_zero, List.set_cons_succ])
                refine wpAnyH_take (i := 3) (oi := ⟨some 38, _, _, _, _, _⟩) (v := ?_) rfl (by kernel_rfl) (by kernel_rfl) (by kernel_rfl) (fun _ _ _ h => False.elim h) (Or.inl ⟨by rfl, ?_⟩) (by assumption) ?_
                rotate_left
                · intro w hSw
                  (try dsimp only at hSw)
                  go_simp
                  all_goals with_reducible rfl
                (try simp only [Act.put, List.setIfInBounds_toArray, List.set_cons_zero, List.set_cons_succ])
                refine wpAnyH_take (i := 4) (oi := ⟨some 39, _, _, _, _, _⟩) (v := .agg X.toArray) rfl (by kernel_rfl) (by kernel_rfl) (by kernel_rfl) (fun _ _ _ h => False.elim h) ?_ (by assumption) ?_
                · refine yieldsIf_load_mid ?_ 23 _ rfl B 20 rfl X _ ?_ HUT.out rfl HSX.out
                  · rfl
                  · (intro w hSw; (try dsimp only at hSw); go_split_ands; assumption)
                (try simp only [Act.put, List.setIfInBounds_toArray, List.set_cons_zero, List.set_cons_succ])
                refine wpAnyH_take (i := 5) (oi := ⟨some 40, _, _, _, _, _⟩) (v := ?_) rfl (by kernel_rfl) (by kernel_rfl) (by kernel_rfl) (fun _ _ _ h => False.elim h) (Or.inl ⟨by rfl, ?_⟩) (by assumption) ?_
                rotate_left
                · intro w hSw
                  (try dsimp only at hSw)
                  go_simp
                  all_goals with_reducible rfl
                (try simp only [Act.put, List.setIfInBounds_toArray, List.set_cons_zero, List.set_cons_succ])
                refine wpAnyH_take (i := 6) (oi := ⟨some 41, _, _, _, _, _⟩) (v := ?_) rfl (by kernel_rfl) (by kernel_rfl) (by kernel_rfl) (fun _ _ _ h => False.elim h) (Or.inl ⟨by rfl, ?_⟩) (by assumption) ?_
                rotate_left
                · intro w hSw
                  (try dsimp only at hSw)
                  go_simp
                  all_goals with_reducible rfl
                (try simp only [Act.put, List.setIfInBounds_toArray, List.set_cons_zero, List.set_cons_succ])
                refine wpAnyH_take (i := 7) (oi := ⟨some 42, _, _, _, _, _⟩) (v := ?_) rfl (by kernel_rfl) (by kernel_rfl) (by kernel_rfl) (fun _ _ _ h => False.elim h) (Or.inl ⟨by rfl, ?_⟩) (by assumption) ?_
                rotate_left
                · intro w hSw
                  (try dsimp only at hSw)
                  go_simp
                  all_goals with_reducible rfl
                (try simp only [Act.put, List.setIfInBounds_toArray, List.set_cons_zero, List.set_cons_succ])
                refine wpAnyH_take (i := 8) (oi := ⟨some 43, _, _, _, _, _⟩) (v := ?_) rfl (by kernel_rfl) (by kernel_rfl) (by kernel_rfl) (fun _ _ _ h => False.elim h) (Or.inl ⟨by rfl, ?_⟩) (by assumption) ?_
                rotate_left
                · intro w hSw
                  (try dsimp only at hSw)
                  go_simp
                  all_goals with_reducible rfl
                (try simp only [Act.put, List.setIfInBounds_toArray, List.set_cons_zero, List.set_cons_succ])
                refine wpAnyH_take (i := 9) (oi := ⟨some 44, _, _, _, _, _⟩) (v := ?_) rfl (by kernel_rfl) (by kernel_rfl) (by kernel_rfl) (fun _ _ _ h => False.elim h) (Or.inl ⟨by rfl, ?_⟩) (by assumption) ?_
                rotate_left
                · intro w hSw
                  (try dsimp only at hSw)
                  go_simp
                  all_goals with_reducible rfl
                (try simp only [Act.put, List.setIfInBounds_toArray, List.set_cons_zero, List.set_cons_succ])
                refine wpAnyH_take (i := 10) (oi := ⟨some 45, _, _, _, _, _⟩) (v := ?_) rfl (by kernel_rfl) (by kernel_rfl) (by kernel_rfl) (fun _ _ _ h => False.elim h) (Or.inl ⟨by rfl, ?_⟩) (by assumption) ?_
                rotate_left
                · intro w hSw
                  (try dsimp only at hSw)
                  go_simp
                  all_goals with_reducible rfl
                (try simp only [Act.put, List.setIfInBounds_toArray, List.set_cons_zero, List.set_cons_succ])
                refine wpAnyH_take (i := 11) (oi := ⟨some 46, _, _, _, _, _⟩) (v := ?_) rfl (by kernel_rfl) (by kernel_rfl) (by kernel_rfl) (fun _ _ _ h => False.elim h) (Or.inl ⟨by rfl, ?_⟩) (by assumption) ?_
                rotate_left
                · intro w hSw
                  (try dsimp only at hSw)
                  go_simp
                  all_goals with_reducible rfl
                (try simp only [Act.put, List.setIfInBounds_toArray, List.set_cons_zero, List.set_cons_succ])
                refine wpAnyH_take (i := 12) (oi := ⟨some 47, _, _, _, _, _⟩) (v := ?_) rfl (by kernel_rfl) (by kernel_rfl) (by kernel_rfl) (fun _ _ _ h => False.elim h) (Or.inl ⟨by rfl, ?_⟩) (by assumption) ?_
                rotate_left
                · intro w hSw
                  (try dsimp only at hSw)
                  go_simp
                  all_goals with_reducible rfl
                (try simp only [Act.put, List.setIfInBounds_toArray, List.set_cons_zero, List.set_cons_succ])
                refine wpAnyH_ready (rs := [13]) (by kernel_rfl) (by simp) ?_
                refine AllReadyH.cons (o := ⟨some 48, _, _, _, _, _⟩) rfl (fun K hK => ?_) AllReadyH.nil
                go_simp
                (refine (HPUT.out T a s1 k1 _ HTD.out HH.out.nat HT16.out).mono ?_; rintro e w7 ⟨E7, a7, rfl, hp7, ht7, hk7⟩; have HK7 := Lib.hid (HKD.out.trans hk7); have HBK7 := Lib.hid (HBK4.out.keep HK7.out HBT.out); have g1 : w7.rangeAt B 20 X := (HTYX.out ▸ (HBOX.out _ _ HBK7.out).2.2.2.1); have g2 : w7.cell? ⟨B, 36, none⟩ = some (.int .u32 s1) := (HBOX.out _ _ HBK7.out).2.2.2.2.1; have g3 : w7.cell? ⟨B, 37, none⟩ = some (.int .u32 k1) := (HBOX.out _ _ HBK7.out).2.2.2.2.2; have HT7 := Lib.hid ht7; have HP7 := Lib.hid hp7; clear hp7 ht7 hk7)
                (try go_wp2_with fail)
                refine hK.out _ _ ?_ (fun hHeld => ?_)
                · ((try dsimp only); refine ⟨?_, ?_, ?_⟩ <;> (first | assumption | (go_keep; done)))
                clear hK K
                (try simp only [Act.put, List.setIfInBounds_toArray, List.set_cons_zero, List.set_cons_succ])
                refine wpAnyH_take (i := 14) (oi := ⟨some 9, _, _, _, _, _⟩) (v := ?_) rfl (by kernel_rfl) (by kernel_rfl) (by kernel_rfl) (fun _ _ _ h => False.elim h) (Or.inl ⟨by rfl, ?_⟩) (by assumption) ?_
                rotate_left
                · intro w hSw
                  (try dsimp only at hSw)
                  go_simp
                  all_goals with_reducible rfl
                (try simp only [Act.put, List.setIfInBounds_toArray, List.set_cons_zero, List.set_cons_succ])
                refine wpAnyH_done (by kernel_rfl) ?_ _
                refine NoPanic.normal ?_
                obtain ⟨rfl, hh7⟩ := (HH.out.same HP7.out HR.out).1 (by have := HV.out; omega)
                have HH7 := Lib.hid hh7
                clear hh7 hHeld
                go_wp2_with fail
                go_roundw
                case rel => exact ⟨2, a7, s1, k1, .inr (.inr ⟨rfl, rfl⟩), rfl, rfl, HT7.out, HH7.out, Rm.hold HH7.out (by have := HV.out; omega), (by have := HV.out; omega), HK7.out⟩
                case measure => simp [intOf]
        · have HBr := Lib.hid (keep_below HB4.out HKr.out HTW.out)
          obtain ⟨w5, hw5⟩ : ∃ W, wr = W := ⟨_, rfl⟩
          rw [hw5] at HTB HKr HBr ⊢
          clear hw5
          go_wp2_with fail
          go_loopw [6, 10] (fun lv iv wr => ∃ (j : Nat) (a : List Gd) (lf : Int), j ≤ n ∧ iv = .int .i64 (j : Int) ∧ lv = .int .u32 lf ∧ TabAt wr T a ∧ Hold a tag sp lf ∧ (0 ≤ lf ∧ lf ≤ 256) ∧ Keeps (· = T) w4 wr) (fun _ i _ => n - (intOf i).toNat)
          case atStart => exact ⟨0, a, lf, Nat.zero_le _, rfl, rfl, HTB.out, HH.out, HLF.out, HKr.out⟩
          case round =>
            clear HTB HH HR HLF HKr HBr HBKr
            obtain ⟨j, a, lf, hj, rfl, rfl, htb, hh, hlf, hk⟩ := hrel
            have HTB := Lib.hid htb
            have HH := Lib.hid hh
            have HLF := Lib.hid hlf
            have HKr := Lib.hid hk
            have HBKr := Lib.hid (HBK4.out.keep hk HBT.out)
            have HBr := Lib.hid (keep_below HB4.out hk HTW.out)
            clear htb hh hlf hk
            by_cases hlt : j < n
            · obtain ⟨b, off, rfl, hbl, hrow⟩ := HA.out.row (by omega)
              obtain ⟨x, hx⟩ : ∃ x, xs[j]? = some x := ⟨_, List.getElem?_eq_getElem (by rw [HA.out.len]; exact hlt)⟩
              have hox := HA.out.ok x (List.mem_of_getElem? hx)
              have hpt : ∀ W, Below w.heap.size w W → W.rangeAt b (off + j * 19 + 1) (x.tag.map (Value.int .u8)) ∧ W.cell? ⟨b, off + j * 19 + 17, none⟩ = some (.int .u32 x.spot) ∧ W.cell? ⟨b, off + j * 19 + 18, none⟩ = some (.int .u32 x.ticks) := fun W hb => by
                have hr : W.rangeAt b (off + j * 19) (acC x) := fun i v hv => (hb.cell (p := ⟨b, off + j * 19 + i, none⟩) hbl).trans (hrow j x hx i v hv)
                exact (ac_at hr hox.tag).2
              have hput := fun T a W => HPUTO.out T a x W
              have heq := HEQO.out x hox
              have hsz : (Try.prog.info? 23).map (·.size) = some (x.tag.map (Value.int .u8)).length := by rw [List.length_map, hox.tag]; exact size_tagS
              have htag16 := hox.tag
              obtain ⟨V, hV⟩ : ∃ V, x.tag.map (Value.int .u8) = V := ⟨_, rfl⟩
              simp only [hV] at hpt hput heq hsz
              have HPT := Lib.hid hpt
              have HPUTX := Lib.hid hput
              have HSV := Lib.hid hsz
              have HTX := Lib.hid htag16
              have HLT := Lib.hid hlt
              have i0 : (0 : Int) ≤ (j : Int) := by omega
              have i1 : (j : Int) < (n : Int) := by omega
              clear hrow hx hox hpt hput hsz htag16 hlt hj hbl hV
              by_cases hxt : x.tag = tag
              · have hst : ∀ W, Sem.run Try.prog (Op.equalIn 10000 23 (.agg V.toArray) (.agg X.toArray)) W = .ok true W := fun W => by rw [heq W]; simp [hxt]
                have HST2 := Lib.hid hst
                clear heq hst hxt
                by_cases hl0 : 0 < lf
                · have e1 := (HPT.out wr HBr.out).1
                  have e2 := (HBOX.out _ _ HBKr.out).1
                  go_upto_region 18 with fail
                  have g1 : wr.drew.rangeAt b (off + j * 19 + 1) V := e1
                  have g2 : wr.drew.rangeAt B 1 X := e2
                  have hst := HST2.out
                  clear e1 e2
                  refine wp_region_noPanic ?_
                  refine wp_region_held_drew (S := (fun w' => w'.rangeAt b (off + j * 19 + 1) V ∧ w'.rangeAt B 1 X)) (by kernel_rfl) ?_ (fun hHeld => ?_)
                  · ((try dsimp only); refine ⟨?_, ?_⟩ <;> (first | assumption | (go_keep; done)))
                  refine wpAnyH_take (i := 0) (oi := ⟨some 87, _, _, _, _, _⟩) (v := ?_) rfl (by kernel_rfl) (by kernel_rfl) (by kernel_rfl) (fun _ _ _ h => False.elim h) (Or.inl ⟨by rfl, ?_⟩) (by assumption) ?_
                  rotate_left
                  · intro w hSw
                    (try dsimp only at hSw)
                    go_simp
                    all_goals with_reducible rfl
                  (try simp only [Act.put, List.setIfInBounds_toArray, List.set_cons_zero, List.set_cons_succ])
                  refine wpAnyH_take (i := 1) (oi := ⟨some 88, _, _, _, _, _⟩) (v := ?_) rfl (by kernel_rfl) (by kernel_rfl) (by kernel_rfl) (fun _ _ _ h => False.elim h) (Or.inl ⟨by rfl, ?_⟩) (by assumption) ?_
                  rotate_left
                  · intro w hSw
                    (try dsimp only at hSw)
                    go_simp
                    all_goals with_reducible rfl
                  (try simp only [Act.put, List.setIfInBounds_toArray, List.set_cons_zero, List.set_cons_succ])
                  refine wpAnyH_take (i := 2) (oi := ⟨some 89, _, _, _, _, _⟩) (v := ?_) rfl (by kernel_rfl) (by kernel_rfl) (by kernel_rfl) (fun _ _ _ h => False.elim h) (Or.inl ⟨by rfl, ?_⟩) (by assumption) ?_
                  rotate_left
                  · intro w hSw
                    (try dsimp only at hSw)
                    go_simp
                    all_goals with_reducible rfl
                  (try simp only [Act.put, List.setIfInBounds_toArray, List.set_cons_zero, List.set_cons_succ])
                  refine wpAnyH_take (i := 3) (oi := ⟨some 90, _, _, _, _, _⟩) (v := ?_) rfl (by kernel_rfl) (by kernel_rfl) (by kernel_rfl) (fun _ _ _ h => False.elim h) (Or.inl ⟨by rfl, ?_⟩) (by assumption) ?_
                  rotate_left
                  · intro w hSw
                    (try dsimp only at hSw)
                    go_simp
                    all_goals with_reducible rfl
                  (try simp only [Act.put, List.setIfInBounds_toArray, List.set_cons_zero, List.set_cons_succ])
                  refine wpAnyH_take (i := 4) (oi := ⟨some 91, _, _, _, _, _⟩) (v := .agg V.toArray) rfl (by kernel_rfl) (by kernel_rfl) (by kernel_rfl) (fun _ _ _ h => False.elim h) ?_ (by assumption) ?_
                  · refine yieldsIf_load_mid ?_ 23 _ rfl b (off + j * 19 + 1) rfl V _ ?_ HUT.out rfl HSV.out
                    · rfl
                    · (intro w hSw; (try dsimp only at hSw); go_split_ands; assumption)
                  (try simp only [Act.put, List.setIfInBounds_toArray, List.set_cons_zero, List.set_cons_succ])
                  refine wpAnyH_take (i := 5) (oi := ⟨some 92, _, _, _, _, _⟩) (v := ?_) rfl (by kernel_rfl) (by kernel_rfl) (by kernel_rfl) (fun _ _ _ h => False.elim h) (Or.inl ⟨by rfl, ?_⟩) (by assumption) ?_
                  rotate_left
                  · intro w hSw
                    (try dsimp only at hSw)
                    go_simp
                    all_goals with_reducible rfl
                  (try simp only [Act.put, List.setIfInBounds_toArray, List.set_cons_zero, List.set_cons_succ])
                  refine wpAnyH_take (i := 6) (oi := ⟨some 93, _, _, _, _, _⟩) (v := ?_) rfl (by kernel_rfl) (by kernel_rfl) (by kernel_rfl) (fun _ _ _ h => False.elim h) (Or.inl ⟨by rfl, ?_⟩) (by assumption) ?_
                  rotate_left
                  · intro w hSw
                    (try dsimp only at hSw)
                    go_simp
                    all_goals with_reducible rfl
                  (try simp only [Act.put, List.setIfInBounds_toArray, List.set_cons_zero, List.set_cons_succ])
                  refine wpAnyH_take (i := 7) (oi := ⟨some 94, _, _, _, _, _⟩) (v := .agg X.toArray) rfl (by kernel_rfl) (by kernel_rfl) (by kernel_rfl) (fun _ _ _ h => False.elim h) ?_ (by assumption) ?_
                  · refine yieldsIf_load_mid ?_ 23 _ rfl B 1 rfl X _ ?_ HUT.out rfl HSX.out
                    · rfl
                    · (intro w hSw; (try dsimp only at hSw); go_split_ands; assumption)
                  (try simp only [Act.put, List.setIfInBounds_toArray, List.set_cons_zero, List.set_cons_succ])
                  refine wpAnyH_take (i := 8) (oi := ⟨some 95, _, _, _, _, _⟩) (v := ?_) rfl (by kernel_rfl) (by kernel_rfl) (by kernel_rfl) (fun _ _ _ h => False.elim h) (Or.inl ⟨by rfl, ?_⟩) (by assumption) ?_
                  rotate_left
                  · intro w hSw
                    (try dsimp only at hSw)
                    go_simp
                    all_goals with_reducible rfl
                  (try simp only [Act.put, List.setIfInBounds_toArray, List.set_cons_zero, List.set_cons_succ])
                  refine wpAnyH_done (by kernel_rfl) ?_ _
                  refine NoPanic.normal ?_
                  clear hHeld hst g1 g2
                  have HTD : Hid (TabAt wr.drew T a) := Lib.hid HTB.out.drew
                  have HKD : Hid (Keeps (· = T) w4 wr.drew) := Lib.hid HKr.out.drew
                  have HBD : Hid (Below w.heap.size w wr.drew) := Lib.hid (below_drawn HBr.out ⟨1, rfl⟩)
                  have HBKD : Hid (Blk wr.drew B 28 CS) := Lib.hid HBKr.out.drew
                  generalize wr.drew = wd at HTD HKD HBD HBKD ⊢
                  clear HTB HKr HBr HBKr
                  go_wp2_with ((with_reducible refine wpList_isK (o := ⟨some 117, _, _, _, _, _⟩) ?_); refine wpList_readK (o := ⟨some 117, .load 23 _, _, _, _, _⟩) (v := .agg X.toArray) (by rfl) (exec_loadM rfl B 1 rfl X _ (HBOX.out _ _ HBKD.out).1 HUT.out rfl HSX.out) ?_)
                  refine (HGET.out T a wd HTD.out HH.out.nat HT16.out).mono ?_
                  rintro e w8 ⟨s8, E8, rfl, hg8, hb8⟩
                  obtain ⟨rfl, rfl⟩ := (HH.out.get hg8).1 hl0
                  have HT8 := Lib.hid (HTD.out.below hb8)
                  have HK8 := Lib.hid (HKD.out.below hb8)
                  have HBK8 := Lib.hid (HBKD.out.below hb8 HBKD.out.lt)
                  clear hg8 hb8
                  have hw1 : IntKind.u32.wrap (lf - 1) = lf - 1 := IntWalk.u32_in _ (by have := HLF.out; omega)
                  have HLP := Lib.hid hl0
                  go_wp2_with fail
                  refine (tick_tab T a w8 HT8.out HH.out.nat).mono ?_
                  rintro e w9 ⟨rfl, ht9, hk9⟩
                  have HT9 := Lib.hid ht9
                  have HK9 := Lib.hid (HK8.out.trans hk9)
                  have HH9 := Lib.hid HH.out.tick
                  clear ht9 hk9
                  go_wp2_with fail
                  go_roundw
                  case rel => exact ⟨j + 1, a.map tickI, lf - 1, by have := HLT.out; omega, by go_num, rfl, HT9.out, (by have h := HH9.out; rwa [if_pos HLP.out] at h), (by have := HLF.out; omega), HK9.out⟩
                  case measure => simp [intOf]; have := HLT.out; omega
                · obtain rfl : lf = 0 := by have := HLF.out; omega
                  have e1 := (HPT.out wr HBr.out).1
                  have e2 := (HBOX.out _ _ HBKr.out).1
                  go_upto_region 18 with fail
                  have g1 : wr.drew.rangeAt b (off + j * 19 + 1) V := e1
                  have g2 : wr.drew.rangeAt B 1 X := e2
                  have hst := HST2.out
                  clear e1 e2
                  refine wp_region_noPanic ?_
                  refine wp_region_held_drew (S := (fun w' => w'.rangeAt b (off + j * 19 + 1) V ∧ w'.rangeAt B 1 X)) (by kernel_rfl) ?_ (fun hHeld => ?_)
                  · ((try dsimp only); refine ⟨?_, ?_⟩ <;> (first | assumption | (go_keep; done)))
                  refine wpAnyH_take (i := 0) (oi := ⟨some 87, _, _, _, _, _⟩) (v := ?_) rfl (by kernel_rfl) (by kernel_rfl) (by kernel_rfl) (fun _ _ _ h => False.elim h) (Or.inl ⟨by rfl, ?_⟩) (by assumption) ?_
                  rotate_left
                  · intro w hSw
                    (try dsimp only at hSw)
                    go_simp
                    all_goals with_reducible rfl
                  (try simp only [Act.put, List.setIfInBounds_toArray, List.set_cons_zero, List.set_cons_succ])
                  refine wpAnyH_take (i := 1) (oi := ⟨some 88, _, _, _, _, _⟩) (v := ?_) rfl (by kernel_rfl) (by kernel_rfl) (by kernel_rfl) (fun _ _ _ h => False.elim h) (Or.inl ⟨by rfl, ?_⟩) (by assumption) ?_
                  rotate_left
                  · intro w hSw
                    (try dsimp only at hSw)
                    go_simp
                    all_goals with_reducible rfl
                  (try simp only [Act.put, List.setIfInBounds_toArray, List.set_cons_zero, List.set_cons_succ])
                  refine wpAnyH_take (i := 2) (oi := ⟨some 89, _, _, _, _, _⟩) (v := ?_) rfl (by kernel_rfl) (by kernel_rfl) (by kernel_rfl) (fun _ _ _ h => False.elim h) (Or.inl ⟨by rfl, ?_⟩) (by assumption) ?_
                  rotate_left
                  · intro w hSw
                    (try dsimp only at hSw)
                    go_simp
                    all_goals with_reducible rfl
                  (try simp only [Act.put, List.setIfInBounds_toArray, List.set_cons_zero, List.set_cons_succ])
                  refine wpAnyH_take (i := 3) (oi := ⟨some 90, _, _, _, _, _⟩) (v := ?_) rfl (by kernel_rfl) (by kernel_rfl) (by kernel_rfl) (fun _ _ _ h => False.elim h) (Or.inl ⟨by rfl, ?_⟩) (by assumption) ?_
                  rotate_left
                  · intro w hSw
                    (try dsimp only at hSw)
                    go_simp
                    all_goals with_reducible rfl
                  (try simp only [Act.put, List.setIfInBounds_toArray, List.set_cons_zero, List.set_cons_succ])
                  refine wpAnyH_take (i := 4) (oi := ⟨some 91, _, _, _, _, _⟩) (v := .agg V.toArray) rfl (by kernel_rfl) (by kernel_rfl) (by kernel_rfl) (fun _ _ _ h => False.elim h) ?_ (by assumption) ?_
                  · refine yieldsIf_load_mid ?_ 23 _ rfl b (off + j * 19 + 1) rfl V _ ?_ HUT.out rfl HSV.out
                    · rfl
                    · (intro w hSw; (try dsimp only at hSw); go_split_ands; assumption)
                  (try simp only [Act.put, List.setIfInBounds_toArray, List.set_cons_zero, List.set_cons_succ])
                  refine wpAnyH_take (i := 5) (oi := ⟨some 92, _, _, _, _, _⟩) (v := ?_) rfl (by kernel_rfl) (by kernel_rfl) (by kernel_rfl) (fun _ _ _ h => False.elim h) (Or.inl ⟨by rfl, ?_⟩) (by assumption) ?_
                  rotate_left
                  · intro w hSw
                    (try dsimp only at hSw)
                    go_simp
                    all_goals with_reducible rfl
                  (try simp only [Act.put, List.setIfInBounds_toArray, List.set_cons_zero, List.set_cons_succ])
                  refine wpAnyH_take (i := 6) (oi := ⟨some 93, _, _, _, _, _⟩) (v := ?_) rfl (by kernel_rfl) (by kernel_rfl) (by kernel_rfl) (fun _ _ _ h => False.elim h) (Or.inl ⟨by rfl, ?_⟩) (by assumption) ?_
                  rotate_left
                  · intro w hSw
                    (try dsimp only at hSw)
                    go_simp
                    all_goals with_reducible rfl
                  (try simp only [Act.put, List.setIfInBounds_toArray, List.set_cons_zero, List.set_cons_succ])
                  refine wpAnyH_take (i := 7) (oi := ⟨some 94, _, _, _, _, _⟩) (v := .agg X.toArray) rfl (by kernel_rfl) (by kernel_rfl) (by kernel_rfl) (fun _ _ _ h => False.elim h) ?_ (by assumption) ?_
                  · refine yieldsIf_load_mid ?_ 23 _ rfl B 1 rfl X _ ?_ HUT.out rfl HSX.out
                    · rfl
                    · (intro w hSw; (try dsimp only at hSw); go_split_ands; assumption)
                  (try simp only [Act.put, List.setIfInBounds_toArray, List.set_cons_zero, List.set_cons_succ])
                  refine wpAnyH_take (i := 8) (oi := ⟨some 95, _, _, _, _, _⟩) (v := ?_) rfl (by kernel_rfl) (by kernel_rfl) (by kernel_rfl) (fun _ _ _ h => False.elim h) (Or.inl ⟨by rfl, ?_⟩) (by assumption) ?_
                  rotate_left
                  · intro w hSw
                    (try dsimp only at hSw)
                    go_simp
                    all_goals with_reducible rfl
                  (try simp only [Act.put, List.setIfInBounds_toArray, List.set_cons_zero, List.set_cons_succ])
                  refine wpAnyH_done (by kernel_rfl) ?_ _
                  refine NoPanic.normal ?_
                  clear hHeld hst g1 g2
                  have HTD : Hid (TabAt wr.drew T a) := Lib.hid HTB.out.drew
                  have HKD : Hid (Keeps (· = T) w4 wr.drew) := Lib.hid HKr.out.drew
                  have HBD : Hid (Below w.heap.size w wr.drew) := Lib.hid (below_drawn HBr.out ⟨1, rfl⟩)
                  have HBKD : Hid (Blk wr.drew B 28 CS) := Lib.hid HBKr.out.drew
                  generalize wr.drew = wd at HTD HKD HBD HBKD ⊢
                  clear HTB HKr HBr HBKr
                  go_wp2_with ((with_reducible refine wpList_isK (o := ⟨some 117, _, _, _, _, _⟩) ?_); refine wpList_readK (o := ⟨some 117, .load 23 _, _, _, _, _⟩) (v := .agg X.toArray) (by rfl) (exec_loadM rfl B 1 rfl X _ (HBOX.out _ _ HBKD.out).1 HUT.out rfl HSX.out) ?_)
                  refine (HGET.out T a wd HTD.out HH.out.nat HT16.out).mono ?_
                  rintro e w8 ⟨s8, E8, rfl, hg8, hb8⟩
                  obtain ⟨rfl, rfl⟩ := (HH.out.get hg8).2 (by omega)
                  have HT8 := Lib.hid (HTD.out.below hb8)
                  have HK8 := Lib.hid (HKD.out.below hb8)
                  have HBK8 := Lib.hid (HBKD.out.below hb8 HBKD.out.lt)
                  clear hg8 hb8
                  go_wp2_with fail
                  refine (tick_tab T a w8 HT8.out HH.out.nat).mono ?_
                  rintro e w9 ⟨rfl, ht9, hk9⟩
                  have HT9 := Lib.hid ht9
                  have HK9 := Lib.hid (HK8.out.trans hk9)
                  have HH9 := Lib.hid HH.out.tick
                  clear ht9 hk9
                  go_wp2_with fail
                  go_roundw
                  case rel => exact ⟨j + 1, a.map tickI, 0, by have := HLT.out; omega, by go_num, rfl, HT9.out, (by have h := HH9.out; rwa [if_neg (by omega)] at h), (by have := HLF.out; omega), HK9.out⟩
                  case measure => simp [intOf]; have := HLT.out; omega
              · have hst : ∀ W, Sem.run Try.prog (Op.equalIn 10000 23 (.agg V.toArray) (.agg X.toArray)) W = .ok false W := fun W => by rw [heq W]; simp [hxt]
                have HST2 := Lib.hid hst
                have HXT := Lib.hid hxt
                clear heq hst hxt
                by_cases hl0 : 0 < lf
                · have e1 := (HPT.out wr HBr.out).1
                  have e2 := (HBOX.out _ _ HBKr.out).1
                  go_upto_region 18 with fail
                  have g1 : wr.drew.rangeAt b (off + j * 19 + 1) V := e1
                  have g2 : wr.drew.rangeAt B 1 X := e2
                  have hst := HST2.out
                  clear e1 e2
                  refine wp_region_noPanic ?_
                  refine wp_region_held_drew (S := (fun w' => w'.rangeAt b (off + j * 19 + 1) V ∧ w'.rangeAt B 1 X)) (by kernel_rfl) ?_ (fun hHeld => ?_)
                  · ((try dsimp only); refine ⟨?_, ?_⟩ <;> (first | assumption | (go_keep; done)))
                  refine wpAnyH_take (i := 0) (oi := ⟨some 87, _, _, _, _, _⟩) (v := ?_) rfl (by kernel_rfl) (by kernel_rfl) (by kernel_rfl) (fun _ _ _ h => False.elim h) (Or.inl ⟨by rfl, ?_⟩) (by assumption) ?_
                  rotate_left
                  · intro w hSw
                    (try dsimp only at hSw)
                    go_simp
                    all_goals with_reducible rfl
                  (try simp only [Act.put, List.setIfInBounds_toArray, List.set_cons_zero, List.set_cons_succ])
                  refine wpAnyH_take (i := 1) (oi := ⟨some 88, _, _, _, _, _⟩) (v := ?_) rfl (by kernel_rfl) (by kernel_rfl) (by kernel_rfl) (fun _ _ _ h => False.elim h) (Or.inl ⟨by rfl, ?_⟩) (by assumption) ?_
                  rotate_left
                  · intro w hSw
                    (try dsimp only at hSw)
                    go_simp
                    all_goals with_reducible rfl
                  (try simp only [Act.put, List.setIfInBounds_toArray, List.set_cons_zero, List.set_cons_succ])
                  refine wpAnyH_take (i := 2) (oi := ⟨some 89, _, _, _, _, _⟩) (v := ?_) rfl (by kernel_rfl) (by kernel_rfl) (by kernel_rfl) (fun _ _ _ h => False.elim h) (Or.inl ⟨by rfl, ?_⟩) (by assumption) ?_
                  rotate_left
                  · intro w hSw
                    (try dsimp only at hSw)
                    go_simp
                    all_goals with_reducible rfl
                  (try simp only [Act.put, List.setIfInBounds_toArray, List.set_cons_zero, List.set_cons_succ])
                  refine wpAnyH_take (i := 3) (oi := ⟨some 90, _, _, _, _, _⟩) (v := ?_) rfl (by kernel_rfl) (by kernel_rfl) (by kernel_rfl) (fun _ _ _ h => False.elim h) (Or.inl ⟨by rfl, ?_⟩) (by assumption) ?_
                  rotate_left
                  · intro w hSw
                    (try dsimp only at hSw)
                    go_simp
                    all_goals with_reducible rfl
                  (try simp only [Act.put, List.setIfInBounds_toArray, List.set_cons_zero, List.set_cons_succ])
                  refine wpAnyH_take (i := 4) (oi := ⟨some 91, _, _, _, _, _⟩) (v := .agg V.toArray) rfl (by kernel_rfl) (by kernel_rfl) (by kernel_rfl) (fun _ _ _ h => False.elim h) ?_ (by assumption) ?_
                  · refine yieldsIf_load_mid ?_ 23 _ rfl b (off + j * 19 + 1) rfl V _ ?_ HUT.out rfl HSV.out
                    · rfl
                    · (intro w hSw; (try dsimp only at hSw); go_split_ands; assumption)
                  (try simp only [Act.put, List.setIfInBounds_toArray, List.set_cons_zero, List.set_cons_succ])
                  refine wpAnyH_take (i := 5) (oi := ⟨some 92, _, _, _, _, _⟩) (v := ?_) rfl (by kernel_rfl) (by kernel_rfl) (by kernel_rfl) (fun _ _ _ h => False.elim h) (Or.inl ⟨by rfl, ?_⟩) (by assumption) ?_
                  rotate_left
                  · intro w hSw
                    (try dsimp only at hSw)
                    go_simp
                    all_goals with_reducible rfl
                  (try simp only [Act.put, List.setIfInBounds_toArray, List.set_cons_zero, List.set_cons_succ])
                  refine wpAnyH_take (i := 6) (oi := ⟨some 93, _, _, _, _, _⟩) (v := ?_) rfl (by kernel_rfl) (by kernel_rfl) (by kernel_rfl) (fun _ _ _ h => False.elim h) (Or.inl ⟨by rfl, ?_⟩) (by assumption) ?_
                  rotate_left
                  · intro w hSw
                    (try dsimp only at hSw)
                    go_simp
                    all_goals with_reducible rfl
                  (try simp only [Act.put, List.setIfInBounds_toArray, List.set_cons_zero, List.set_cons_succ])
                  refine wpAnyH_take (i := 7) (oi := ⟨some 94, _, _, _, _, _⟩) (v := .agg X.toArray) rfl (by kernel_rfl) (by kernel_rfl) (by kernel_rfl) (fun _ _ _ h => False.elim h) ?_ (by assumption) ?_
                  · refine yieldsIf_load_mid ?_ 23 _ rfl B 1 rfl X _ ?_ HUT.out rfl HSX.out
                    · rfl
                    · (intro w hSw; (try dsimp only at hSw); go_split_ands; assumption)
                  (try simp only [Act.put, List.setIfInBounds_toArray, List.set_cons_zero, List.set_cons_succ])
                  refine wpAnyH_take (i := 8) (oi := ⟨some 95, _, _, _, _, _⟩) (v := ?_) rfl (by kernel_rfl) (by kernel_rfl) (by kernel_rfl) (fun _ _ _ h => False.elim h) (Or.inl ⟨by rfl, ?_⟩) (by assumption) ?_
                  rotate_left
                  · intro w hSw
                    (try dsimp only at hSw)
                    go_simp
                    all_goals with_reducible rfl
                  (try simp only [Act.put, List.setIfInBounds_toArray, List.set_cons_zero, List.set_cons_succ])
                  refine wpAnyH_done (by kernel_rfl) ?_ _
                  refine NoPanic.normal ?_
                  clear hHeld hst g1 g2
                  have HTD : Hid (TabAt wr.drew T a) := Lib.hid HTB.out.drew
                  have HKD : Hid (Keeps (· = T) w4 wr.drew) := Lib.hid HKr.out.drew
                  have HBD : Hid (Below w.heap.size w wr.drew) := Lib.hid (below_drawn HBr.out ⟨1, rfl⟩)
                  have HBKD : Hid (Blk wr.drew B 28 CS) := Lib.hid HBKr.out.drew
                  generalize wr.drew = wd at HTD HKD HBD HBKD ⊢
                  clear HTB HKr HBr HBKr
                  have e1 := (HPT.out wd HBD.out).1
                  have e2 := (HPT.out wd HBD.out).2.1
                  have e3 := (HPT.out wd HBD.out).2.2
                  go_upto_region 19 with fail
                  generalize hspx : x.spot = xs_ at e2
                  generalize htkx : x.ticks = xk_ at e3
                  have g1 : wd.drew.rangeAt b (off + j * 19 + 1) V := e1
                  have g2 : wd.drew.cell? ⟨b, off + j * 19 + 17, none⟩ = some (.int .u32 xs_) := e2
                  have g3 : wd.drew.cell? ⟨b, off + j * 19 + 18, none⟩ = some (.int .u32 xk_) := e3
                  have HPU := Lib.hid (HPUTX.out T a wd.drew HTD.out.drew HH.out.nat HTX.out)
                  rw [hspx, htkx] at HPU
                  have HSPX := Lib.hid hspx
                  have HTKX := Lib.hid htkx
                  clear e1 e2 e3 hspx htkx
                  refine wp_region_noPanic ?_
                  refine wp_region_held_drew (S := (fun w' => w'.rangeAt b (off + j * 19 + 1) V ∧ w'.cell? ⟨b, off + j * 19 + 17, none⟩ = some (.int .u32 xs_) ∧ w'.cell? ⟨b, off + j * 19 + 18, none⟩ = some (.int .u32 xk_))) (by kernel_rfl) ?_ (fun hHeld => ?_)
                  · ((try dsimp only); refine ⟨?_, ?_, ?_⟩ <;> (first | assumption | (go_keep; done)))
                  refine wpAnyH_take (i := 0) (oi := ⟨some 96, _, _, _, _, _⟩) (v := ?_) rfl (by kernel_rfl) (by kernel_rfl) (by kernel_rfl) (fun _ _ _ h => False.elim h) (Or.inl ⟨by rfl, ?_⟩) (by assumption) ?_
                  rotate_left
                  · intro w hSw
                    (try dsimp only at hSw)
                    go_simp
                    all_goals with_reducible rfl
                  (try simp only [Act.put, List.setIfInBounds_toArray, List.set_cons_zero, List.set_cons_succ])
                  refine wpAnyH_take (i := 1) (oi := ⟨some 97, _, _, _, _, _⟩) (v := ?_) rfl (by kernel_rfl) (by kernel_rfl) (by kernel_rfl) (fun _ _ _ h => False.elim h) (Or.inl ⟨by rfl, ?_⟩) (by assumption) ?_
                  rotate_left
                  · intro w hSw
                    (try dsimp only at hSw)
                    go_simp
                    all_goals with_reducible rfl
                  (try simp only [Act.put, List.setIfInBounds_toArray, List.set_cons_zero, List.set_cons_succ])
                  refine wpAnyH_take (i := 2) (oi := ⟨some 98, _, _, _, _, _⟩) (v := ?_) rfl (by kernel_rfl) (by kernel_rfl) (by kernel_rfl) (fun _ _ _ h => False.elim h) (Or.inl ⟨by rfl, ?_⟩) (by assumption) ?_
                  rotate_left
                  · intro w hSw
                    (try dsimp only at hSw)
                    go_simp
                    all_goals with_reducible rfl
                  (try simp only [Act.put, List.setIfInBounds_toArray, List.set_cons_zero, List.set_cons_succ])
                  refine wpAnyH_take (i := 3) (oi := ⟨some 99, _, _, _, _, _⟩) (v := ?_) rfl (by kernel_rfl) (by kernel_rfl) (by kernel_rfl) (fun _ _ _ h => False.elim h) (Or.inl ⟨by rfl, ?_⟩) (by assumption) ?_
                  rotate_left
                  · intro w hSw
                    (try dsimp only at hSw)
                    go_simp
                    all_goals with_reducible rfl
                  (try simp only [Act.put, List.setIfInBounds_toArray, List.set_cons_zero, List.set_cons_succ])
                  refine wpAnyH_take (i := 4) (oi := ⟨some 100, _, _, _, _, _⟩) (v := ?_) rfl (by kernel_rfl) (by kernel_rfl) (by kernel_rfl) (fun _ _ _ h => False.elim h) (Or.inl ⟨by rfl, ?_⟩) (by assumption) ?_
                  rotate_left
                  · intro w hSw
                    (try dsimp only at hSw)
                    go_simp
                    all_goals with_reducible rfl
                  (try simp only [Act.put, List.setIfInBounds_toArray, List.set_cons_zero, List.set_cons_succ])
                  refine wpAnyH_take (i := 5) (oi := ⟨some 101, _, _, _, _, _⟩) (v := .agg V.toArray) rfl (by kernel_rfl) (by kernel_rfl) (by kernel_rfl) (fun _ _ _ h => False.elim h) ?_ (by assumption) ?_
                  · refine yieldsIf_load_mid ?_ 23 _ rfl b (off + j * 19 + 1) rfl V _ ?_ HUT.out rfl HSV.out
                    · rfl
                    · (intro w hSw; (try dsimp only at hSw); go_split_ands; assumption)
                  (try simp only [Act.put, List.setIfInBounds_toArray, List.set_cons_zero, List.set_cons_succ])
                  refine wpAnyH_take (i := 6) (oi := ⟨some 102, _, _, _, _, _⟩) (v := ?_) rfl (by kernel_rfl) (by kernel_rfl) (by kernel_rfl) (fun _ _ _ h => False.elim h) (Or.inl ⟨by rfl, ?_⟩) (by assumption) ?_
                  rotate_left
                  · intro w hSw
                    (try dsimp only at hSw)
                    go_simp
                    all_goals with_reducible rfl
                  (try simp only [Act.put, List.setIfInBounds_toArray, List.set_cons_zero, List.set_cons_succ])
                  refine wpAnyH_take (i := 7) (oi := ⟨some 103, _, _, _, _, _⟩) (v := ?_) rfl (by kernel_rfl) (by kernel_rfl) (by kernel_rfl) (fun _ _ _ h => False.elim h) (Or.inl ⟨by rfl, ?_⟩) (by assumption) ?_
                  rotate_left
                  · intro w hSw
                    (try dsimp only at hSw)
                    go_simp
                    all_goals with_reducible rfl
                  (try simp only [Act.put, List.setIfInBounds_toArray, List.set_cons_zero, List.set_cons_succ])
                  refine wpAnyH_take (i := 8) (oi := ⟨some 104, _, _, _, _, _⟩) (v := ?_) rfl (by kernel_rfl) (by kernel_rfl) (by kernel_rfl) (fun _ _ _ h => False.elim h) (Or.inl ⟨by rfl, ?_⟩) (by assumption) ?_
                  rotate_left
                  · intro w hSw
                    (try dsimp only at hSw)
                    go_simp
                    all_goals with_reducible rfl
                  (try simp only [Act.put, List.setIfInBounds_toArray, List.set_cons_zero, List.set_cons_succ])
                  refine wpAnyH_take (i := 9) (oi := ⟨some 105, _, _, _, _, _⟩) (v := ?_) rfl (by kernel_rfl) (by kernel_rfl) (by kernel_rfl) (fun _ _ _ h => False.elim h) (Or.inl ⟨by rfl, ?_⟩) (by assumption) ?_
                  rotate_left
                  · intro w hSw
                    (try dsimp only at hSw)
                    go_simp
                    all_goals with_reducible rfl
                  (try simp only [Act.put, List.setIfInBounds_toArray, List.set_cons_zero, List.set_cons_succ])
                  refine wpAnyH_take (i := 10) (oi := ⟨some 106, _, _, _, _, _⟩) (v := ?_) rfl (by kernel_rfl) (by kernel_rfl) (by kernel_rfl) (fun _ _ _ h => False.elim h) (Or.inl ⟨by rfl, ?_⟩) (by assumption) ?_
                  rotate_left
                  · intro w hSw
                    (try dsimp only at hSw)
                    go_simp
                    all_goals with_reducible rfl
                  (try simp only [Act.put, List.setIfInBounds_toArray, List.set_cons_zero, List.set_cons_succ])
                  refine wpAnyH_take (i := 11) (oi := ⟨some 107, _, _, _, _, _⟩) (v := ?_) rfl (by kernel_rfl) (by kernel_rfl) (by kernel_rfl) (fun _ _ _ h => False.elim h) (Or.inl ⟨by rfl, ?_⟩) (by assumption) ?_
                  rotate_left
                  · intro w hSw
                    (try dsimp only at hSw)
                    go_simp
                    all_goals with_reducible rfl
                  (try simp only [Act.put, List.setIfInBounds_toArray, List.set_cons_zero, List.set_cons_succ])
                  refine wpAnyH_take (i := 12) (oi := ⟨some 108, _, _, _, _, _⟩) (v := ?_) rfl (by kernel_rfl) (by kernel_rfl) (by kernel_rfl) (fun _ _ _ h => False.elim h) (Or.inl ⟨by rfl, ?_⟩) (by assumption) ?_
                  rotate_left
                  · intro w hSw
                    (try dsimp only at hSw)
                    go_simp
                    all_goals with_reducible rfl
                  (try simp only [Act.put, List.setIfInBounds_toArray, List.set_cons_zero, List.set_cons_succ])
                  refine wpAnyH_take (i := 13) (oi := ⟨some 109, _, _, _, _, _⟩) (v := ?_) rfl (by kernel_rfl) (by kernel_rfl) (by kernel_rfl) (fun _ _ _ h => False.elim h) (Or.inl ⟨by rfl, ?_⟩) (by assumption) ?_
                  rotate_left
                  · intro w hSw
                    (try dsimp only at hSw)
                    go_simp
                    all_goals with_reducible rfl
                  (try simp only [Act.put, List.setIfInBounds_toArray, List.set_cons_zero, List.set_cons_succ])
                  refine wpAnyH_take (i := 14) (oi := ⟨some 110, _, _, _, _, _⟩) (v := ?_) rfl (by kernel_rfl) (by kernel_rfl) (by kernel_rfl) (fun _ _ _ h => False.elim h) (Or.inl ⟨by rfl, ?_⟩) (by assumption) ?_
                  rotate_left
                  · intro w hSw
                    (try dsimp only at hSw)
                    go_simp
                    all_goals with_reducible rfl
                  (try simp only [Act.put, List.setIfInBounds_toArray, List.set_cons_zero, List.set_cons_succ])
                  refine wpAnyH_take (i := 15) (oi := ⟨some 111, _, _, _, _, _⟩) (v := ?_) rfl (by kernel_rfl) (by kernel_rfl) (by kernel_rfl) (fun _ _ _ h => False.elim h) (Or.inl ⟨by rfl, ?_⟩) (by assumption) ?_
                  rotate_left
                  · intro w hSw
                    (try dsimp only at hSw)
                    go_simp
                    all_goals with_reducible rfl
                  (try simp only [Act.put, List.setIfInBounds_toArray, List.set_cons_zero, List.set_cons_succ])
                  refine wpAnyH_ready (rs := [16]) (by kernel_rfl) (by simp) ?_
                  refine AllReadyH.cons (o := ⟨some 112, _, _, _, _, _⟩) rfl (fun K hK => ?_) AllReadyH.nil
                  go_simp
                  refine HPU.out.mono ?_
                  rintro e w7 ⟨E7, a7, rfl, hp7, ht7, hk7⟩
                  dsimp only
                  have HK7 := Lib.hid (HKD.out.drew.trans hk7)
                  have HB7 := Lib.hid (keep_below HB4.out HK7.out HTW.out)
                  have HBK7 := Lib.hid (HBK4.out.keep HK7.out HBT.out)
                  have HT7 := Lib.hid ht7
                  have HH7 := Lib.hid (HH.out.other hp7 HXT.out)
                  have hq := HPT.out w7 HB7.out
                  have hS : w7.rangeAt b (off + j * 19 + 1) V ∧ w7.cell? ⟨b, off + j * 19 + 17, none⟩ = some (.int .u32 xs_) ∧ w7.cell? ⟨b, off + j * 19 + 18, none⟩ = some (.int .u32 xk_) := ⟨hq.1, (hq.2.1.trans (HSPX.out ▸ rfl)), (hq.2.2.trans (HTKX.out ▸ rfl))⟩
                  clear hp7 ht7 hk7 hq
                  refine hK.out _ _ hS (fun hHeld => ?_)
                  clear hK K hS
                  (try simp only [Act.put, List.setIfInBounds_toArray, List.set_cons_zero, List.set_cons_succ])
                  refine wpAnyH_done (by kernel_rfl) ?_ _
                  refine NoPanic.normal ?_
                  clear hHeld g1 g2 g3 HPU
                  go_wp2_with ((with_reducible refine wpList_isK (o := ⟨some 117, _, _, _, _, _⟩) ?_); refine wpList_readK (o := ⟨some 117, .load 23 _, _, _, _, _⟩) (v := .agg X.toArray) (by rfl) (exec_loadM rfl B 1 rfl X _ (HBOX.out _ _ HBK7.out).1 HUT.out rfl HSX.out) ?_)
                  refine (HGET.out T a7 w7 HT7.out HH7.out.nat HT16.out).mono ?_
                  rintro e w8 ⟨s8, E8, rfl, hg8, hb8⟩
                  obtain ⟨rfl, rfl⟩ := (HH7.out.get hg8).1 hl0
                  have HT8 := Lib.hid (HT7.out.below hb8)
                  have HK8 := Lib.hid (HK7.out.below hb8)
                  have HBK8 := Lib.hid (HBK7.out.below hb8 HBK7.out.lt)
                  clear hg8 hb8
                  have hw1 : IntKind.u32.wrap (lf - 1) = lf - 1 := IntWalk.u32_in _ (by have := HLF.out; omega)
                  have HLP := Lib.hid hl0
                  go_wp2_with fail
                  refine (tick_tab T a7 w8 HT8.out HH7.out.nat).mono ?_
                  rintro e w9 ⟨rfl, ht9, hk9⟩
                  have HT9 := Lib.hid ht9
                  have HK9 := Lib.hid (HK8.out.trans hk9)
                  have HH9 := Lib.hid HH7.out.tick
                  clear ht9 hk9
                  go_wp2_with fail
                  go_roundw
                  case rel => exact ⟨j + 1, a7.map tickI, lf - 1, by have := HLT.out; omega, by go_num, rfl, HT9.out, (by have h := HH9.out; rwa [if_pos HLP.out] at h), (by have := HLF.out; omega), HK9.out⟩
                  case measure => simp [intOf]; have := HLT.out; omega
                · obtain rfl : lf = 0 := by have := HLF.out; omega
                  have e1 := (HPT.out wr HBr.out).1
                  have e2 := (HBOX.out _ _ HBKr.out).1
                  go_upto_region 18 with fail
                  have g1 : wr.drew.rangeAt b (off + j * 19 + 1) V := e1
                  have g2 : wr.drew.rangeAt B 1 X := e2
                  have hst := HST2.out
                  clear e1 e2
                  refine wp_region_noPanic ?_
                  refine wp_region_held_drew (S := (fun w' => w'.rangeAt b (off + j * 19 + 1) V ∧ w'.rangeAt B 1 X)) (by kernel_rfl) ?_ (fun hHeld => ?_)
                  · ((try dsimp only); refine ⟨?_, ?_⟩ <;> (first | assumption | (go_keep; done)))
                  refine wpAnyH_take (i := 0) (oi := ⟨some 87, _, _, _, _, _⟩) (v := ?_) rfl (by kernel_rfl) (by kernel_rfl) (by kernel_rfl) (fun _ _ _ h => False.elim h) (Or.inl ⟨by rfl, ?_⟩) (by assumption) ?_
                  rotate_left
                  · intro w hSw
                    (try dsimp only at hSw)
                    go_simp
                    all_goals with_reducible rfl
                  (try simp only [Act.put, List.setIfInBounds_toArray, List.set_cons_zero, List.set_cons_succ])
                  refine wpAnyH_take (i := 1) (oi := ⟨some 88, _, _, _, _, _⟩) (v := ?_) rfl (by kernel_rfl) (by kernel_rfl) (by kernel_rfl) (fun _ _ _ h => False.elim h) (Or.inl ⟨by rfl, ?_⟩) (by assumption) ?_
                  rotate_left
                  · intro w hSw
                    (try dsimp only at hSw)
                    go_simp
                    all_goals with_reducible rfl
                  (try simp only [Act.put, List.setIfInBounds_toArray, List.set_cons_zero, List.set_cons_succ])
                  refine wpAnyH_take (i := 2) (oi := ⟨some 89, _, _, _, _, _⟩) (v := ?_) rfl (by kernel_rfl) (by kernel_rfl) (by kernel_rfl) (fun _ _ _ h => False.elim h) (Or.inl ⟨by rfl, ?_⟩) (by assumption) ?_
                  rotate_left
                  · intro w hSw
                    (try dsimp only at hSw)
                    go_simp
                    all_goals with_reducible rfl
                  (try simp only [Act.put, List.setIfInBounds_toArray, List.set_cons_zero, List.set_cons_succ])
                  refine wpAnyH_take (i := 3) (oi := ⟨some 90, _, _, _, _, _⟩) (v := ?_) rfl (by kernel_rfl) (by kernel_rfl) (by kernel_rfl) (fun _ _ _ h => False.elim h) (Or.inl ⟨by rfl, ?_⟩) (by assumption) ?_
                  rotate_left
                  · intro w hSw
                    (try dsimp only at hSw)
                    go_simp
                    all_goals with_reducible rfl
                  (try simp only [Act.put, List.setIfInBounds_toArray, List.set_cons_zero, List.set_cons_succ])
                  refine wpAnyH_take (i := 4) (oi := ⟨some 91, _, _, _, _, _⟩) (v := .agg V.toArray) rfl (by kernel_rfl) (by kernel_rfl) (by kernel_rfl) (fun _ _ _ h => False.elim h) ?_ (by assumption) ?_
                  · refine yieldsIf_load_mid ?_ 23 _ rfl b (off + j * 19 + 1) rfl V _ ?_ HUT.out rfl HSV.out
                    · rfl
                    · (intro w hSw; (try dsimp only at hSw); go_split_ands; assumption)
                  (try simp only [Act.put, List.setIfInBounds_toArray, List.set_cons_zero, List.set_cons_succ])
                  refine wpAnyH_take (i := 5) (oi := ⟨some 92, _, _, _, _, _⟩) (v := ?_) rfl (by kernel_rfl) (by kernel_rfl) (by kernel_rfl) (fun _ _ _ h => False.elim h) (Or.inl ⟨by rfl, ?_⟩) (by assumption) ?_
                  rotate_left
                  · intro w hSw
                    (try dsimp only at hSw)
                    go_simp
                    all_goals with_reducible rfl
                  (try simp only [Act.put, List.setIfInBounds_toArray, List.set_cons_zero, List.set_cons_succ])
                  refine wpAnyH_take (i := 6) (oi := ⟨some 93, _, _, _, _, _⟩) (v := ?_) rfl (by kernel_rfl) (by kernel_rfl) (by kernel_rfl) (fun _ _ _ h => False.elim h) (Or.inl ⟨by rfl, ?_⟩) (by assumption) ?_
                  rotate_left
                  · intro w hSw
                    (try dsimp only at hSw)
                    go_simp
                    all_goals with_reducible rfl
                  (try simp only [Act.put, List.setIfInBounds_toArray, List.set_cons_zero, List.set_cons_succ])
                  refine wpAnyH_take (i := 7) (oi := ⟨some 94, _, _, _, _, _⟩) (v := .agg X.toArray) rfl (by kernel_rfl) (by kernel_rfl) (by kernel_rfl) (fun _ _ _ h => False.elim h) ?_ (by assumption) ?_
                  · refine yieldsIf_load_mid ?_ 23 _ rfl B 1 rfl X _ ?_ HUT.out rfl HSX.out
                    · rfl
                    · (intro w hSw; (try dsimp only at hSw); go_split_ands; assumption)
                  (try simp only [Act.put, List.setIfInBounds_toArray, List.set_cons_zero, List.set_cons_succ])
                  refine wpAnyH_take (i := 8) (oi := ⟨some 95, _, _, _, _, _⟩) (v := ?_) rfl (by kernel_rfl) (by kernel_rfl) (by kernel_rfl) (fun _ _ _ h => False.elim h) (Or.inl ⟨by rfl, ?_⟩) (by assumption) ?_
                  rotate_left
                  · intro w hSw
                    (try dsimp only at hSw)
                    go_simp
                    all_goals with_reducible rfl
                  (try simp only [Act.put, List.setIfInBounds_toArray, List.set_cons_zero, List.set_cons_succ])
                  refine wpAnyH_done (by kernel_rfl) ?_ _
                  refine NoPanic.normal ?_
                  clear hHeld hst g1 g2
                  have HTD : Hid (TabAt wr.drew T a) := Lib.hid HTB.out.drew
                  have HKD : Hid (Keeps (· = T) w4 wr.drew) := Lib.hid HKr.out.drew
                  have HBD : Hid (Below w.heap.size w wr.drew) := Lib.hid (below_drawn HBr.out ⟨1, rfl⟩)
                  have HBKD : Hid (Blk wr.drew B 28 CS) := Lib.hid HBKr.out.drew
                  generalize wr.drew = wd at HTD HKD HBD HBKD ⊢
                  clear HTB HKr HBr HBKr
                  have e1 := (HPT.out wd HBD.out).1
                  have e2 := (HPT.out wd HBD.out).2.1
                  have e3 := (HPT.out wd HBD.out).2.2
                  go_upto_region 19 with fail
                  generalize hspx : x.spot = xs_ at e2
                  generalize htkx : x.ticks = xk_ at e3
                  have g1 : wd.drew.rangeAt b (off + j * 19 + 1) V := e1
                  have g2 : wd.drew.cell? ⟨b, off + j * 19 + 17, none⟩ = some (.int .u32 xs_) := e2
                  have g3 : wd.drew.cell? ⟨b, off + j * 19 + 18, none⟩ = some (.int .u32 xk_) := e3
                  have HPU := Lib.hid (HPUTX.out T a wd.drew HTD.out.drew HH.out.nat HTX.out)
                  rw [hspx, htkx] at HPU
                  have HSPX := Lib.hid hspx
                  have HTKX := Lib.hid htkx
                  clear e1 e2 e3 hspx htkx
                  refine wp_region_noPanic ?_
                  refine wp_region_held_drew (S := (fun w' => w'.rangeAt b (off + j * 19 + 1) V ∧ w'.cell? ⟨b, off + j * 19 + 17, none⟩ = some (.int .u32 xs_) ∧ w'.cell? ⟨b, off + j * 19 + 18, none⟩ = some (.int .u32 xk_))) (by kernel_rfl) ?_ (fun hHeld => ?_)
                  · ((try dsimp only); refine ⟨?_, ?_, ?_⟩ <;> (first | assumption | (go_keep; done)))
                  refine wpAnyH_take (i := 0) (oi := ⟨some 96, _, _, _, _, _⟩) (v := ?_) rfl (by kernel_rfl) (by kernel_rfl) (by kernel_rfl) (fun _ _ _ h => False.elim h) (Or.inl ⟨by rfl, ?_⟩) (by assumption) ?_
                  rotate_left
                  · intro w hSw
                    (try dsimp only at hSw)
                    go_simp
                    all_goals with_reducible rfl
                  (try simp only [Act.put, List.setIfInBounds_toArray, List.set_cons_zero, List.set_cons_succ])
                  refine wpAnyH_take (i := 1) (oi := ⟨some 97, _, _, _, _, _⟩) (v := ?_) rfl (by kernel_rfl) (by kernel_rfl) (by kernel_rfl) (fun _ _ _ h => False.elim h) (Or.inl ⟨by rfl, ?_⟩) (by assumption) ?_
                  rotate_left
                  · intro w hSw
                    (try dsimp only at hSw)
                    go_simp
                    all_goals with_reducible rfl
                  (try simp only [Act.put, List.setIfInBounds_toArray, List.set_cons_zero, List.set_cons_succ])
                  refine wpAnyH_take (i := 2) (oi := ⟨some 98, _, _, _, _, _⟩) (v := ?_) rfl (by kernel_rfl) (by kernel_rfl) (by kernel_rfl) (fun _ _ _ h => False.elim h) (Or.inl ⟨by rfl, ?_⟩) (by assumption) ?_
                  rotate_left
                  · intro w hSw
                    (try dsimp only at hSw)
                    go_simp
                    all_goals with_reducible rfl
                  (try simp only [Act.put, List.setIfInBounds_toArray, List.set_cons_zero, List.set_cons_succ])
                  refine wpAnyH_take (i := 3) (oi := ⟨some 99, _, _, _, _, _⟩) (v := ?_) rfl (by kernel_rfl) (by kernel_rfl) (by kernel_rfl) (fun _ _ _ h => False.elim h) (Or.inl ⟨by rfl, ?_⟩) (by assumption) ?_
                  rotate_left
                  · intro w hSw
                    (try dsimp only at hSw)
                    go_simp
                    all_goals with_reducible rfl
                  (try simp only [Act.put, List.setIfInBounds_toArray, List.set_cons_zero, List.set_cons_succ])
                  refine wpAnyH_take (i := 4) (oi := ⟨some 100, _, _, _, _, _⟩) (v := ?_) rfl (by kernel_rfl) (by kernel_rfl) (by kernel_rfl) (fun _ _ _ h => False.elim h) (Or.inl ⟨by rfl, ?_⟩) (by assumption) ?_
                  rotate_left
                  · intro w hSw
                    (try dsimp only at hSw)
                    go_simp
                    all_goals with_reducible rfl
                  (try simp only [Act.put, List.setIfInBounds_toArray, List.set_cons_zero, List.set_cons_succ])
                  refine wpAnyH_take (i := 5) (oi := ⟨some 101, _, _, _, _, _⟩) (v := .agg V.toArray) rfl (by kernel_rfl) (by kernel_rfl) (by kernel_rfl) (fun _ _ _ h => False.elim h) ?_ (by assumption) ?_
                  · refine yieldsIf_load_mid ?_ 23 _ rfl b (off + j * 19 + 1) rfl V _ ?_ HUT.out rfl HSV.out
                    · rfl
                    · (intro w hSw; (try dsimp only at hSw); go_split_ands; assumption)
                  (try simp only [Act.put, List.setIfInBounds_toArray, List.set_cons_zero, List.set_cons_succ])
                  refine wpAnyH_take (i := 6) (oi := ⟨some 102, _, _, _, _, _⟩) (v := ?_) rfl (by kernel_rfl) (by kernel_rfl) (by kernel_rfl) (fun _ _ _ h => False.elim h) (Or.inl ⟨by rfl, ?_⟩) (by assumption) ?_
                  rotate_left
                  · intro w hSw
                    (try dsimp only at hSw)
                    go_simp
                    all_goals with_reducible rfl
                  (try simp only [Act.put, List.setIfInBounds_toArray, List.set_cons_zero, List.set_cons_succ])
                  refine wpAnyH_take (i := 7) (oi := ⟨some 103, _, _, _, _, _⟩) (v := ?_) rfl (by kernel_rfl) (by kernel_rfl) (by kernel_rfl) (fun _ _ _ h => False.elim h) (Or.inl ⟨by rfl, ?_⟩) (by assumption) ?_
                  rotate_left
                  · intro w hSw
                    (try dsimp only at hSw)
                    go_simp
                    all_goals with_reducible rfl
                  (try simp only [Act.put, List.setIfInBounds_toArray, List.set_cons_zero, List.set_cons_succ])
                  refine wpAnyH_take (i := 8) (oi := ⟨some 104, _, _, _, _, _⟩) (v := ?_) rfl (by kernel_rfl) (by kernel_rfl) (by kernel_rfl) (fun _ _ _ h => False.elim h) (Or.inl ⟨by rfl, ?_⟩) (by assumption) ?_
                  rotate_left
                  · intro w hSw
                    (try dsimp only at hSw)
                    go_simp
                    all_goals with_reducible rfl
                  (try simp only [Act.put, List.setIfInBounds_toArray, List.set_cons_zero, List.set_cons_succ])
                  refine wpAnyH_take (i := 9) (oi := ⟨some 105, _, _, _, _, _⟩) (v := ?_) rfl (by kernel_rfl) (by kernel_rfl) (by kernel_rfl) (fun _ _ _ h => False.elim h) (Or.inl ⟨by rfl, ?_⟩) (by assumption) ?_
                  rotate_left
                  · intro w hSw
                    (try dsimp only at hSw)
                    go_simp
                    all_goals with_reducible rfl
                  (try simp only [Act.put, List.setIfInBounds_toArray, List.set_cons_zero, List.set_cons_succ])
                  refine wpAnyH_take (i := 10) (oi := ⟨some 106, _, _, _, _, _⟩) (v := ?_) rfl (by kernel_rfl) (by kernel_rfl) (by kernel_rfl) (fun _ _ _ h => False.elim h) (Or.inl ⟨by rfl, ?_⟩) (by assumption) ?_
                  rotate_left
                  · intro w hSw
                    (try dsimp only at hSw)
                    go_simp
                    all_goals with_reducible rfl
                  (try simp only [Act.put, List.setIfInBounds_toArray, List.set_cons_zero, List.set_cons_succ])
                  refine wpAnyH_take (i := 11) (oi := ⟨some 107, _, _, _, _, _⟩) (v := ?_) rfl (by kernel_rfl) (by kernel_rfl) (by kernel_rfl) (fun _ _ _ h => False.elim h) (Or.inl ⟨by rfl, ?_⟩) (by assumption) ?_
                  rotate_left
                  · intro w hSw
                    (try dsimp only at hSw)
                    go_simp
                    all_goals with_reducible rfl
                  (try simp only [Act.put, List.setIfInBounds_toArray, List.set_cons_zero, List.set_cons_succ])
                  refine wpAnyH_take (i := 12) (oi := ⟨some 108, _, _, _, _, _⟩) (v := ?_) rfl (by kernel_rfl) (by kernel_rfl) (by kernel_rfl) (fun _ _ _ h => False.elim h) (Or.inl ⟨by rfl, ?_⟩) (by assumption) ?_
                  rotate_left
                  · intro w hSw
                    (try dsimp only at hSw)
                    go_simp
                    all_goals with_reducible rfl
                  (try simp only [Act.put, List.setIfInBounds_toArray, List.set_cons_zero, List.set_cons_succ])
                  refine wpAnyH_take (i := 13) (oi := ⟨some 109, _, _, _, _, _⟩) (v := ?_) rfl (by kernel_rfl) (by kernel_rfl) (by kernel_rfl) (fun _ _ _ h => False.elim h) (Or.inl ⟨by rfl, ?_⟩) (by assumption) ?_
                  rotate_left
                  · intro w hSw
                    (try dsimp only at hSw)
                    go_simp
                    all_goals with_reducible rfl
                  (try simp only [Act.put, List.setIfInBounds_toArray, List.set_cons_zero, List.set_cons_succ])
                  refine wpAnyH_take (i := 14) (oi := ⟨some 110, _, _, _, _, _⟩) (v := ?_) rfl (by kernel_rfl) (by kernel_rfl) (by kernel_rfl) (fun _ _ _ h => False.elim h) (Or.inl ⟨by rfl, ?_⟩) (by assumption) ?_
                  rotate_left
                  · intro w hSw
                    (try dsimp only at hSw)
                    go_simp
                    all_goals with_reducible rfl
                  (try simp only [Act.put, List.setIfInBounds_toArray, List.set_cons_zero, List.set_cons_succ])
                  refine wpAnyH_take (i := 15) (oi := ⟨some 111, _, _, _, _, _⟩) (v := ?_) rfl (by kernel_rfl) (by kernel_rfl) (by kernel_rfl) (fun _ _ _ h => False.elim h) (Or.inl ⟨by rfl, ?_⟩) (by assumption) ?_
                  rotate_left
                  · intro w hSw
                    (try dsimp only at hSw)
                    go_simp
                    all_goals with_reducible rfl
                  (try simp only [Act.put, List.setIfInBounds_toArray, List.set_cons_zero, List.set_cons_succ])
                  refine wpAnyH_ready (rs := [16]) (by kernel_rfl) (by simp) ?_
                  refine AllReadyH.cons (o := ⟨some 112, _, _, _, _, _⟩) rfl (fun K hK => ?_) AllReadyH.nil
                  go_simp
                  refine HPU.out.mono ?_
                  rintro e w7 ⟨E7, a7, rfl, hp7, ht7, hk7⟩
                  dsimp only
                  have HK7 := Lib.hid (HKD.out.drew.trans hk7)
                  have HB7 := Lib.hid (keep_below HB4.out HK7.out HTW.out)
                  have HBK7 := Lib.hid (HBK4.out.keep HK7.out HBT.out)
                  have HT7 := Lib.hid ht7
                  have HH7 := Lib.hid (HH.out.other hp7 HXT.out)
                  have hq := HPT.out w7 HB7.out
                  have hS : w7.rangeAt b (off + j * 19 + 1) V ∧ w7.cell? ⟨b, off + j * 19 + 17, none⟩ = some (.int .u32 xs_) ∧ w7.cell? ⟨b, off + j * 19 + 18, none⟩ = some (.int .u32 xk_) := ⟨hq.1, (hq.2.1.trans (HSPX.out ▸ rfl)), (hq.2.2.trans (HTKX.out ▸ rfl))⟩
                  clear hp7 ht7 hk7 hq
                  refine hK.out _ _ hS (fun hHeld => ?_)
                  clear hK K hS
                  (try simp only [Act.put, List.setIfInBounds_toArray, List.set_cons_zero, List.set_cons_succ])
                  refine wpAnyH_done (by kernel_rfl) ?_ _
                  refine NoPanic.normal ?_
                  clear hHeld g1 g2 g3 HPU
                  go_wp2_with ((with_reducible refine wpList_isK (o := ⟨some 117, _, _, _, _, _⟩) ?_); refine wpList_readK (o := ⟨some 117, .load 23 _, _, _, _, _⟩) (v := .agg X.toArray) (by rfl) (exec_loadM rfl B 1 rfl X _ (HBOX.out _ _ HBK7.out).1 HUT.out rfl HSX.out) ?_)
                  refine (HGET.out T a7 w7 HT7.out HH7.out.nat HT16.out).mono ?_
                  rintro e w8 ⟨s8, E8, rfl, hg8, hb8⟩
                  obtain ⟨rfl, rfl⟩ := (HH7.out.get hg8).2 (by omega)
                  have HT8 := Lib.hid (HT7.out.below hb8)
                  have HK8 := Lib.hid (HK7.out.below hb8)
                  have HBK8 := Lib.hid (HBK7.out.below hb8 HBK7.out.lt)
                  clear hg8 hb8
                  go_wp2_with fail
                  refine (tick_tab T a7 w8 HT8.out HH7.out.nat).mono ?_
                  rintro e w9 ⟨rfl, ht9, hk9⟩
                  have HT9 := Lib.hid ht9
                  have HK9 := Lib.hid (HK8.out.trans hk9)
                  have HH9 := Lib.hid HH7.out.tick
                  clear ht9 hk9
                  go_wp2_with fail
                  go_roundw
                  case rel => exact ⟨j + 1, a7.map tickI, 0, by have := HLT.out; omega, by go_num, rfl, HT9.out, (by have h := HH9.out; rwa [if_neg (by omega)] at h), (by have := HLF.out; omega), HK9.out⟩
                  case measure => simp [intOf]; have := HLT.out; omega
            · obtain rfl : j = n := by omega
              clear hlt hj
              go_wp2_with fail
              refine (len_tab T a _ HTB.out HH.out.nat).mono ?_
              rintro e w6 ⟨rfl, hb6⟩
              have HB6 := Lib.hid (HBr.out.trans (hb6.mono HBr.out.size))
              have hle : ((taken a).length : Int) ≤ 8 := by have := taken_le a; have := HH.out.len; omega
              generalize (taken a).length = N at hle ⊢
              clear hb6
              go_wp2_with fail
              go_ret
              exact ⟨by simp [hle], HB6.out⟩
    · have hst : ∀ W, Sem.run Try.prog (Op.equalIn 10000 23 (.agg X.toArray) (.agg Y.toArray)) W = .ok false W := fun W => by rw [heq W]; simp [htt]
      have HST := Lib.hid hst
      clear heq hst htt
      go_enter Try.func3, Try.ntmps3
      go_wp2_with ((with_reducible refine wpList_isK (o := ⟨some 2, _, _, _, _, _⟩) ?_); refine wpList_boxT (o := ⟨some 2, .box 28 _, _, _, _, _⟩) rfl 28 _ rfl CS rfl ?_; intro w1 HBK1 HB1; obtain ⟨B, hB⟩ : ∃ R, w.heap.size = R := ⟨_, rfl⟩; rw [hB] at HBK1 ⊢; have HBW := Lib.hid hB; clear hB)
      refine (alive_any _).mono ?_
      rintro e w2 ⟨rfl, hb2⟩
      have HBK2 := Lib.hid (HBK1.out.below hb2 HBK1.out.lt)
      have HB2 := Lib.hid (HB1.out.trans (hb2.mono HB1.out.size))
      clear hb2
      have hst := HST.out
      go_wp2_with (first
        | ((with_reducible refine wpList_isK (o := ⟨some 23, _, _, _, _, _⟩) ?_); refine wpList_readK (o := ⟨some 23, .load 23 _, _, _, _, _⟩) (v := .agg X.toArray) (by rfl) (exec_loadM rfl B 1 rfl X _ (HBOX.out _ _ HBK2.out).1 HUT.out rfl HSX.out) ?_)
        | ((with_reducible refine wpList_isK (o := ⟨some 26, _, _, _, _, _⟩) ?_); refine wpList_readK (o := ⟨some 26, .load 23 _, _, _, _, _⟩) (v := .agg Y.toArray) (by rfl) (exec_loadM rfl B 20 rfl Y _ (HBOX.out _ _ HBK2.out).2.2.2.1 HUT.out rfl HSY.out) ?_))
      refine (alive_any _).mono ?_
      rintro e w3 ⟨rfl, hb3⟩
      have HB3 := Lib.hid (HB2.out.trans (hb3.mono HB2.out.size))
      clear hb3
      go_wp2_with fail
      go_ret
      exact ⟨rfl, HB3.out⟩
end Go.Proofs.Ytadpgodmkodgdaa
