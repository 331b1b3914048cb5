/- The walks over the document's kind, Check and Put of packets. -/
import Derived.Test.YtjikjdignhdipaaGreatDoorYRPacketsGet11
import Derived.Test.YtjikjdignhdipaaGreatDoorYRPacketsGet13
import Derived.Test.YtjikjdignhdipaaGreatDoorYRPacketsGet16
namespace Go.Proofs.YtjikjdignhdipaaGreatDoor
open Go.RowKit
set_option linter.unusedSimpArgs false
set_option linter.unusedVariables false

theorem refkind_any (k : Int) (w : World) (h0 : 0 ≤ k) : Calls Tryz.prog 29 #[.int .u8 k] w fun e w' => e = .returned (.bool (decide (1 ≤ k ∧ k ≤ 8))) ∧ w = w' := by
  by_cases h1 : 1 ≤ k
  · by_cases h2 : k ≤ 8
    · rw [decide_eq_true ⟨h1, h2⟩]
      go_enter Tryz.func29, Tryz.ntmps29
      go_wp2_with fail
      go_ret
      exact ⟨rfl, rfl⟩
    · rw [decide_eq_false (fun h => h2 h.2)]
      go_enter Tryz.func29, Tryz.ntmps29
      go_wp2_with fail
      go_ret
      exact ⟨rfl, rfl⟩
  · rw [decide_eq_false (fun h => h1 h.1)]
    go_enter Tryz.func29, Tryz.ntmps29
    go_wp2_with fail
    go_ret
    exact ⟨rfl, rfl⟩

theorem hefts_snoc (l : List Int) (x : Int) : hefts false (l ++ [x]) = hefts false l + heft (odd_ l.length) x := by
  rw [hefts_append]; simp [hefts, odd_]
theorem hefts_le : ∀ (l : List Int) (odd : Bool), isB l → hefts odd l ≤ 65280 * (l.length : Int)
  | [], _, _ => by simp [hefts]
  | c :: l, odd, h => by
    have h1 := heft_bounds (odd := odd) (h c (by simp)).1 (h c (by simp)).2
    have h2 := hefts_le l (!odd) (fun x hx => h x (by simp [hx]))
    simp only [hefts, List.length_cons]; omega
theorem canon_fold {s : Int} (h : 65536 ≤ s) : canon (s % 65536 + s / 65536) = canon s := by unfold canon; repeat' split <;> omega
set_option maxRecDepth 100000 in
set_option maxHeartbeats 1000000 in
theorem refcheck_any (A0 : Option Addr) (n0 c0 : Nat) (bs : List Int) (w : World) (r0 : Rd w .u8 A0 n0 bs) (hn : n0 ≤ 1000000) :
    Calls Tryz.prog 20 #[.slice A0 n0 c0] w fun e w' => e = .returned (.int .u16 (chk bs)) ∧ w = w' := by
  have hl := r0.len
  have hB := isB_rd r0
  have hck := chk_is hB
  have HCK := Lib.hid hck
  have HBB := Lib.hid hB
  have HL := Lib.hid hl
  have HR := Lib.hid r0
  clear hck hB hl r0
  go_enter Tryz.func20, Tryz.ntmps20
  go_wp2_with fail
  go_loop [3, 4] (fun n i => ∃ j : Nat, j ≤ n0 ∧ i = .int .i64 j ∧ n = .int .u64 (hefts false (bs.take j))) (fun _ i => n0 - (intOf i).toNat)
  case atStart => exact ⟨0, by omega, rfl, by simp [hefts]⟩
  case round =>
    obtain ⟨j, hj, rfl, rfl⟩ := hrel
    have hb0 := hefts_nonneg (bs.take j) false (isB_take HBB.out j)
    have hb1 := hefts_le (bs.take j) false (isB_take HBB.out j)
    have htl : (bs.take j).length = j := by rw [List.length_take, HL.out]; omega
    rw [htl] at hb1
    by_cases hlt : j < n0
    · obtain ⟨b, off, rfl, _, hc⟩ := HR.out.row (by omega)
      have hcj := hc j hlt
      have hx : 0 ≤ bs[j]?.getD 0 ∧ bs[j]?.getD 0 ≤ 255 := by
        have := HL.out
        rw [List.getElem?_eq_getElem (by omega)]; exact HBB.out _ (List.getElem_mem _)
      have hsn : hefts false (bs.take (j + 1)) = hefts false (bs.take j) + heft (odd_ j) (bs[j]?.getD 0) := by
        have := HL.out
        have e : bs.take (j + 1) = bs.take j ++ [bs[j]?.getD 0] := by rw [List.take_succ_eq_append_getElem (by omega)]; simp [show j < bs.length by omega]
        rw [e, hefts_snoc, htl]
      generalize bs[j]?.getD 0 = x at *
      generalize hefts false (bs.take j) = n at *
      have i0 : (0 : Int) ≤ (j : Int) := by omega
      have i1 : (j : Int) < (n0 : Int) := by omega
      have hadd : IntKind.i64.wrap ((j : Int) + 1) = (j : Int) + 1 := IntWalk.i64_in _ (by omega)
      have HS := Lib.hid hsn
      have htm : (j : Int).tmod 2 = (j : Int) % 2 := Int.tmod_eq_emod_of_nonneg i0
      have hwx : IntKind.u64.wrap x = x := IntWalk.u64_in _ (by omega)
      have hx0 := hx.1
      have hx1 := hx.2
      have hwm : IntKind.u64.wrap (256 * x) = 256 * x := IntWalk.u64_in _ (by omega)
      have hwa : IntKind.u64.wrap (n + 256 * x) = n + 256 * x := IntWalk.u64_in _ (by omega)
      have hwb : IntKind.u64.wrap (n + x) = n + x := IntWalk.u64_in _ (by omega)
      clear hsn hc htl hx
      rcases Nat.mod_two_eq_zero_or_one j with hp | hp
      · have hm : (j : Int) % 2 = 0 := by omega
        have hm2 : ((j : Int) % 2 == 0) = true := by rw [hm]; rfl
        have ho : odd_ j = false := by unfold odd_; rw [hp]; rfl
        have HO := Lib.hid ho
        clear ho hm
        go_wp2_with fail
        go_round
        case rel => exact ⟨j + 1, by omega, by go_num, by rw [HS.out, HO.out]; simp only [heft]; rw [show n + 256 * x = n + x * 256 by omega]; rfl⟩
        case measure => simp [intOf]; omega
      · have hm : (j : Int) % 2 = 1 := by omega
        have hm2 : ((j : Int) % 2 == 0) = false := by rw [hm]; rfl
        have ho : odd_ j = true := by unfold odd_; rw [hp]; rfl
        have HO := Lib.hid ho
        clear ho hm
        go_wp2_with fail
        go_round
        case rel => exact ⟨j + 1, by omega, by go_num, by rw [HS.out, HO.out]; rfl⟩
        case measure => simp [intOf]; omega
    · obtain rfl : j = n0 := by omega
      have htk : bs.take j = bs := List.take_of_length_le (by have := HL.out; omega)
      rw [htk] at hb0 hb1 ⊢
      clear htk htl
      have HCK2 : Hid (chk bs = 65535 - canon (hefts false bs)) := HCK
      generalize hefts false bs = S at *
      go_wp2_with fail
      go_loop [3] (fun n => ∃ s : Int, 0 ≤ s ∧ s ≤ 65280000000 ∧ n = .int .u64 s ∧ canon s = canon S) (fun n => (intOf n).toNat)
      case atStart => exact ⟨S, hb0, by omega, rfl, rfl⟩
      case round =>
        obtain ⟨s, hs0, hs1, rfl, hcs⟩ := hrel
        have HCS := Lib.hid hcs
        have hw65 : IntKind.u64.wrap (s % 65536 + s / 65536) = s % 65536 + s / 65536 := IntWalk.u64_in _ (by omega)
        clear hcs
        by_cases hg : 65535 < s
        · go_wp2_with fail
          go_round
          case rel => exact ⟨s % 65536 + s / 65536, by omega, by omega, rfl, by rw [canon_fold (by omega)]; exact HCS.out⟩
          case measure => simp [intOf]; omega
        · have hsub : IntKind.u64.wrap (65535 - s) = 65535 - s := IntWalk.u64_in _ (by omega)
          have hsub2 : IntKind.u16.wrap (65535 - s) = 65535 - s := IntWalk.u16_in _ (by omega)
          go_wp2_with fail
          go_ret
          exact ⟨ret_int (by rw [HCK2.out, ← HCS.out, canon_self hs0 (by omega)]), rfl⟩

/-- What the document's Put answers. -/
def RPkPut (w : World) (kind : Int) (f t : List Int) (ps : List Piece) (e : Ending) (w' : World) : Prop :=
  (pkE kind ps ≠ 0 ∧ e = .returned (.tuple #[.slice none 0 0, .int .i64 (pkE kind ps)]) ∧ Below w.heap.size w w') ∨
  ∃ A L c, pkE kind ps = 0 ∧ (pkB kind f t (pieces ps)).length = L ∧ e = .returned (.tuple #[.slice A L c, .int .i64 0]) ∧ Rd w' .u8 A L (pkB kind f t (pieces ps)) ∧ Below w.heap.size w w'
theorem withChk_set (b : List Int) (q : Int) : (b.set 4 (q / 256)).set 5 (q % 256) = withChk b q := rfl

set_option maxRecDepth 100000 in
set_option maxHeartbeats 4000000 in
theorem refpkput_any (kind : Int) (f t : List Int) (ps : List Piece) (A : Option Addr) (n c : Nat) (w : World) (hps : Ps w A n ps) (hf : f.length = 16) (ht : t.length = 16) (hfb : isB f) (htb : isB t) (hk : 0 ≤ kind ∧ kind ≤ 255) :
    Calls Tryz.prog 9 #[.agg (pktC kind f t (.slice A n c)).toArray] w (RPkPut w kind f t ps) := by
  have hbox := Blk.new w 27 (pktC kind f t (.slice A n c))
  have c0 : (w.alloc (.cells (pktC kind f t (.slice A n c)).toArray 27)).cell? ⟨w.heap.size, 0, none⟩ = some (.int .u8 kind) := hbox.cell 0
  have c33 : (w.alloc (.cells (pktC kind f t (.slice A n c)).toArray 27)).cell? ⟨w.heap.size, 33, none⟩ = some (.slice A n c) := by
    rw [hbox.cell 33]
    simp only [pktC, List.getElem?_cons_succ]
    rw [List.getElem?_append_right (by simp [hf]), List.length_map, hf, List.getElem?_append_right (by simp [ht]), List.length_map, ht]
    rfl
  have hB0 := new_below w (.cells (pktC kind f t (.slice A n c)).toArray 27)
  have hps0 := hps.below hB0
  have hrf : Rd (w.alloc (.cells (pktC kind f t (.slice A n c)).toArray 27)) .u8 (some ⟨w.heap.size, 1, none⟩) 16 f := ⟨hf, by omega, bytes_wf hfb, fun _ => ⟨_, 1, rfl, hbox.lt, fun j hj => by
    rw [hbox.cell, Nat.add_comm, pktC, List.getElem?_cons_succ, List.getElem?_append_left (by simp [hf]; omega)]
    simp [show j < f.length by omega]⟩⟩
  have hrt : Rd (w.alloc (.cells (pktC kind f t (.slice A n c)).toArray 27)) .u8 (some ⟨w.heap.size, 17, none⟩) 16 t := ⟨ht, by omega, bytes_wf htb, fun _ => ⟨_, 17, rfl, hbox.lt, fun j hj => by
    rw [hbox.cell, show 17 + j = (16 + j) + 1 by omega, pktC, List.getElem?_cons_succ, List.getElem?_append_right (by simp [hf]), List.length_map, hf, List.getElem?_append_left (by simp [ht]; omega), show 16 + j - 16 = j by omega]
    simp [show j < t.length by omega]⟩⟩
  have hmay := refkind_any kind (w.alloc (.cells (pktC kind f t (.slice A n c)).toArray 27)) hk.1
  have hpap := refpaput_any A n c ps _ hps0
  generalize hW : w.alloc (.cells (pktC kind f t (.slice A n c)).toArray 27) = w1 at *
  have HB0 := Lib.hid hB0
  have HPA := Lib.hid hpap
  have HRF := Lib.hid hrf
  have HRT := Lib.hid hrt
  have HPOK := Lib.hid (ps_ok hps)
  obtain ⟨X, hX⟩ : ∃ X, pktC kind f t (.slice A n c) = X := ⟨_, rfl⟩
  rw [hX] at hW hbox ⊢
  clear hpap hrf hrt hps0 hB0 hX hps
  by_cases hm : 1 ≤ kind ∧ kind ≤ 8
  · rw [decide_eq_true hm] at hmay
    go_enter Tryz.func9, Tryz.ntmps9
    go_wp2_with (refine wpList_value (o := ⟨some 1, .box 27 _, _, _, _, _⟩) (v := .pointer (some ⟨w.heap.size, 0, none⟩)) (w' := w.alloc (.cells X.toArray 27)) rfl (by rfl) ?_; rw [hW])
    refine hmay.mono ?_; rintro e w2 ⟨rfl, rfl⟩
    have hEk : Hid (pkE kind ps = if putE ps = 0 then (if 2048 < 40 + (pieces ps).length then 3 else 0) else putE ps) := Lib.hid (by unfold pkE; rw [if_pos hm])
    have HX := Lib.hid hbox.lt
    go_wp2_with fail
    refine HPA.out.mono ?_
    rintro e w2 (⟨hne, rfl, hB2⟩ | ⟨A2, c2, h00, rfl, hr2, hz2, hlc2, hB2⟩)
    · have HE : Hid (pkE kind ps = putE ps) := Lib.hid (by rw [hEk.out, if_neg hne])
      have HNE : Hid (putE ps ≠ 0) := Lib.hid hne
      have HB2 := Lib.hid (HB0.out.trans (hB2.mono HB0.out.size))
      generalize putE ps = E at *
      have hne1 : (E == 0) = false := beq_eq_false_iff_ne.2 hne
      have hne2 : (E != 0) = true := by simpa using hne
      clear hB2 hmay hne
      go_wp2_with fail
      go_ret2
      exact .inl ⟨by rw [HE.out]; exact HNE.out, by rw [HE.out]; rfl, HB2.out⟩
    · obtain ⟨L, hL⟩ : ∃ L, (pieces ps).length = L := ⟨_, rfl⟩
      rw [hL] at hr2 hlc2 ⊢
      have HHL := Lib.hid hL
      have HB2 := Lib.hid (HB0.out.trans (hB2.mono HB0.out.size))
      have HEL : Hid (pkE kind ps = if 2048 < 40 + L then 3 else 0) := Lib.hid (by rw [hEk.out, if_pos h00, hL])
      have hLb := hr2.big
      have hw40 : IntKind.i64.wrap ((L : Int) + 40) = (L : Int) + 40 := IntWalk.i64_in _ (by omega)
      by_cases hbg : 2048 < 40 + L
      · have hbg' : (2048 : Int) < (L : Int) + 40 := by omega
        have HE : Hid (pkE kind ps = 3) := Lib.hid (by rw [HEL.out, if_pos hbg])
        clear hB2 hmay hr2 hz2 hlc2 hL
        go_wp2_with fail
        go_ret2
        exact .inl ⟨by rw [HE.out]; decide, by rw [HE.out]; rfl, HB2.out⟩
      · have hbg' : ¬ ((2048 : Int) < (L : Int) + 40) := by omega
        have HE : Hid (pkE kind ps = 0) := Lib.hid (by rw [HEL.out, if_neg hbg])
        have c0' := (hB2.cell (p := ⟨w.heap.size, 0, none⟩) HX.out).trans c0
        have hwu : IntKind.u64.wrap ((L : Int) + 40) = (L : Int) + 40 := IntWalk.u64_in _ (by omega)
        have hput := rput_own (some ⟨w2.heap.size, 0, none⟩) 2 2 [1, kind] ((L : Int) + 40) 2 (w2.alloc (.cells #[.int .u8 1, .int .u8 kind] 5)) (rd_lit w2 [1, kind] 2 (by intro x hx; simp at hx; omega) rfl (by omega)) (fun e => by cases e) (by omega) (by omega) (by omega)
        have HPUT := Lib.hid hput
        have hB23 : Below w.heap.size w (w2.alloc (.cells #[.int .u8 1, .int .u8 kind] 5)) := HB2.out.alloc HB2.out.size _
        have HB23 := Lib.hid hB23
        have HR2 := Lib.hid (hr2.below (new_below w2 (.cells #[.int .u8 1, .int .u8 kind] 5)))
        have HRF2 := Lib.hid ((HRF.out.below hB2).below (new_below w2 (.cells #[.int .u8 1, .int .u8 kind] 5)))
        have HRT2 := Lib.hid ((HRT.out.below hB2).below (new_below w2 (.cells #[.int .u8 1, .int .u8 kind] 5)))
        have HZ2 := Lib.hid hz2
        have HLC2 := Lib.hid hlc2
        clear hput hB23 hr2 hz2 hB2 hmay c0 c33 hlc2 hL
        go_wp2_with fail
        refine HPUT.out.mono ?_; rintro e w4 ⟨A4, c4, m4, hm4, rfl, ho4, hB4⟩
        have hm4' : m4 = 4 := by rw [← hm4, List.length_append, be_length]; rfl
        subst hm4'
        obtain ⟨W2, hW2⟩ : ∃ W2, w2.alloc (.cells #[.int .u8 1, .int .u8 kind] 5) = W2 := ⟨_, rfl⟩
        rw [hW2] at HB23 HR2 HRF2 HRT2 HPUT ho4 hB4
        have HO4 := Lib.hid ho4
        have HRZ := Lib.hid (rd_lit w4 [0, 0, 0, 0] 4 (by intro x hx; simp at hx; omega) rfl (by omega))
        have HB5 : Hid (Below W2.heap.size W2 (w4.alloc (.cells #[.int .u8 0, .int .u8 0, .int .u8 0, .int .u8 0] 5))) := Lib.hid (hB4.alloc hB4.size _)
        have HO5 := Lib.hid (ho4.alloc (.cells #[.int .u8 0, .int .u8 0, .int .u8 0, .int .u8 0] 5))
        clear hm4 ho4 hB4 HPUT HRF HRT HPA hW2
        go_wp2_with (at_builtin; refine append_bytes (w := w4.alloc (.cells #[.int .u8 0, .int .u8 0, .int .u8 0, .int .u8 0] 5)) W2.heap.size rfl _ _ rfl (.slice A4 4 c4) 4 ([1, kind] ++ be ((L : Int) + 40) (putMany 2)) rfl (some ⟨w4.heap.size, 0, none⟩) 4 4 [0, 0, 0, 0] rfl HRZ.out (fun e => by cases e) HO5.out HB5.out.size (by omega) ?_; intro v6 w6 HO6 hg6 hat6; have HG6 := Lib.hid hg6; clear hg6 hat6)
        have hB6 : Below W2.heap.size W2 w6.drew := (grown_below HB5.out HG6.out HO5.out (Nat.le_refl _)).trans ((drew_below w6).mono (grown_below HB5.out HG6.out HO5.out (Nat.le_refl _)).size)
        have HB6 := Lib.hid hB6
        have HRF6 := Lib.hid (HRF2.out.below hB6)
        have HO6d := Lib.hid (HO6.out.drew)
        obtain ⟨Y, hY⟩ : ∃ Y, [1, kind] ++ be ((L : Int) + 40) (putMany 2) ++ [0, 0, 0, 0] = Y := ⟨_, rfl⟩
        rw [hY] at HO6d
        have HY := Lib.hid hY
        clear hY hB6 HO6 HG6 HB5 HO5 HRZ
        refine wp_region_noPanic ?_
        refine wp_region_held_drew (S := (fun w' => True)) (by kernel_rfl) ?_ (fun hHeld => ?_)
        · ((try dsimp only) <;> (first | assumption | (go_keep; done)))
        refine wpAnyH_take (i := 0) (oi := ⟨some 36, _, _, _, _, _⟩) (v := ?_) rfl (by kernel_rfl) (by kernel_rfl) (by kernel_rfl) (fun _ _ _ h => False.elim h) (Or.inl ⟨by rfl, ?_⟩) (by assumption) ?_
        rotate_left
        · intro w hSw
          (try dsimp only at hSw)
          go_simp
          all_goals with_reducible rfl
        (try simp only [Act.put, List.setIfInBounds_toArray, List.set_cons_zero, List.set_cons_succ])
        refine wpAnyH_take (i := 1) (oi := ⟨some 37, _, _, _, _, _⟩) (v := ?_) rfl (by kernel_rfl) (by kernel_rfl) (by kernel_rfl) (fun _ _ _ h => False.elim h) (Or.inl ⟨by rfl, ?_⟩) (by assumption) ?_
        rotate_left
        · intro w hSw
          (try dsimp only at hSw)
          go_simp
          all_goals with_reducible rfl
        (try simp only [Act.put, List.setIfInBounds_toArray, List.set_cons_zero, List.set_cons_succ])
        refine wpAnyH_take (i := 2) (oi := ⟨some 38, _, _, _, _, _⟩) (v := ?_) rfl (by kernel_rfl) (by kernel_rfl) (by kernel_rfl) (fun _ _ _ h => False.elim h) (Or.inl ⟨by rfl, ?_⟩) (by assumption) ?_
        rotate_left
        · intro w hSw
          (try dsimp only at hSw)
          go_simp
          all_goals with_reducible rfl
        (try simp only [Act.put, List.setIfInBounds_toArray, List.set_cons_zero, List.set_cons_succ])
        refine wpAnyH_take (i := 4) (oi := ⟨some 40, _, _, _, _, _⟩) (v := ?_) rfl (by kernel_rfl) (by kernel_rfl) (by kernel_rfl) (fun _ _ _ h => False.elim h) (Or.inl ⟨by rfl, ?_⟩) (by assumption) ?_
        rotate_left
        · intro w hSw
          (try dsimp only at hSw)
          go_simp
          all_goals with_reducible rfl
        (try simp only [Act.put, List.setIfInBounds_toArray, List.set_cons_zero, List.set_cons_succ])
        refine wpAnyH_take (i := 5) (oi := ⟨some 41, _, _, _, _, _⟩) (v := ?_) rfl (by kernel_rfl) (by kernel_rfl) (by kernel_rfl) (fun _ _ _ h => False.elim h) (Or.inl ⟨by rfl, ?_⟩) (by assumption) ?_
        rotate_left
        · intro w hSw
          (try dsimp only at hSw)
          go_simp
          all_goals with_reducible rfl
        (try simp only [Act.put, List.setIfInBounds_toArray, List.set_cons_zero, List.set_cons_succ])
        refine wpAnyH_take (i := 7) (oi := ⟨some 43, _, _, _, _, _⟩) (v := ?_) rfl (by kernel_rfl) (by kernel_rfl) (by kernel_rfl) (fun _ _ _ h => False.elim h) (Or.inl ⟨by rfl, ?_⟩) (by assumption) ?_
        rotate_left
        · intro w hSw
          (try dsimp only at hSw)
          go_simp
          all_goals with_reducible rfl
        (try simp only [Act.put, List.setIfInBounds_toArray, List.set_cons_zero, List.set_cons_succ])
        refine wpAnyH_ready (rs := [3]) (by kernel_rfl) (by simp) ?_
        refine AllReadyH.cons (o := ⟨some 39, _, _, _, _, _⟩) rfl (fun K hK => ?_) AllReadyH.nil
        (refine step_append_bytes W2.heap.size rfl _ _ rfl v6 (4 + 4) Y (by simp [Act.eval, Act.put]) (some ⟨w.heap.size, 1, none⟩) 16 16 f (by simp [Act.eval, Act.put]) HRF6.out (fun e => by cases e) HO6d.out HB6.out.size (by omega) ?_; intro v7 w7 HO7 hg7 hat7; have HB7 := Lib.hid (grown_below HB6.out hg7 HO6d.out (Nat.le_refl _)); have HRT7 := Lib.hid (HRT2.out.below HB7.out); clear hg7 hat7)
        refine hK.out _ _ ?_ (fun hHeld => ?_)
        · ((try dsimp only) <;> (first | assumption | (go_keep; done)))
        clear hK K
        (try simp only [Act.put, List.setIfInBounds_toArray, List.set_cons_zero, List.set_cons_succ])
        refine wpAnyH_ready (rs := [6]) (by kernel_rfl) (by simp) ?_
        refine AllReadyH.cons (o := ⟨some 42, _, _, _, _, _⟩) rfl (fun K hK => ?_) AllReadyH.nil
        (refine step_append_bytes W2.heap.size rfl _ _ rfl v7 (4 + 4 + 16) (Y ++ f) (by simp [Act.eval, Act.put]) (some ⟨w.heap.size, 17, none⟩) 16 16 t (by simp [Act.eval, Act.put]) HRT7.out (fun e => by cases e) HO7.out HB7.out.size (by omega) ?_; intro v8 w8 HO8 hg8 hat8; have HB8 := Lib.hid (grown_below HB7.out hg8 HO7.out (Nat.le_refl _)); have HR8 := Lib.hid (HR2.out.below HB8.out); clear hg8 hat8)
        refine hK.out _ _ ?_ (fun hHeld => ?_)
        · ((try dsimp only) <;> (first | assumption | (go_keep; done)))
        clear hK K
        (try simp only [Act.put, List.setIfInBounds_toArray, List.set_cons_zero, List.set_cons_succ])
        refine wpAnyH_ready (rs := [8]) (by kernel_rfl) (by simp) ?_
        refine AllReadyH.cons (o := ⟨some 44, _, _, _, _, _⟩) rfl (fun K hK => ?_) AllReadyH.nil
        (refine step_append_bytes W2.heap.size rfl _ _ rfl v8 (4 + 4 + 16 + 16) (Y ++ f ++ t) (by simp [Act.eval, Act.put]) A2 L c2 (pieces ps) (by simp [Act.eval, Act.put]) HR8.out HZ2.out HO8.out HB8.out.size (by omega) ?_; intro v9 w9 HO9 hg9 hat9; have HB9 := Lib.hid (grown_below HB8.out hg9 HO8.out (Nat.le_refl _)); clear hg9 hat9)
        refine hK.out _ _ ?_ (fun hHeld => ?_)
        · ((try dsimp only) <;> (first | assumption | (go_keep; done)))
        clear hK K
        (try simp only [Act.put, List.setIfInBounds_toArray, List.set_cons_zero, List.set_cons_succ])
        refine wpAnyH_take (i := 9) (oi := ⟨some 6, _, _, _, _, _⟩) (v := ?_) rfl (by kernel_rfl) (by kernel_rfl) (by kernel_rfl) (fun _ _ _ h => False.elim h) (Or.inl ⟨by rfl, ?_⟩) (by assumption) ?_
        rotate_left
        · intro w hSw
          (try dsimp only at hSw)
          go_simp
          all_goals with_reducible rfl
        (try simp only [Act.put, List.setIfInBounds_toArray, List.set_cons_zero, List.set_cons_succ])
        refine wpAnyH_done (by kernel_rfl) ?_ _
        refine NoPanic.normal ?_
        have hcat : Y ++ f ++ t ++ pieces ps = pk0 kind f t (pieces ps) := by
          rw [← HY.out, ← pk0_cat, HHL.out, show ((40 + L : Nat) : Int) = (L : Int) + 40 by omega]
          simp only [List.append_assoc]
          rfl
        obtain ⟨N, hN⟩ : ∃ N, 4 + 4 + 16 + 16 + L = N := ⟨_, rfl⟩
        rw [hcat, hN] at HO9
        obtain ⟨P0, hP0⟩ : ∃ P0, pk0 kind f t (pieces ps) = P0 := ⟨_, rfl⟩
        have hpb : isB (pieces ps) := pieces_byte _ HPOK.out
        have h0b := pk0_byte (kind := kind) hm hfb htb hpb
        have h0l : (pk0 kind f t (pieces ps)).length = N := by rw [pk0_length hf ht, HHL.out]; omega
        have hBL : pkB kind f t (pieces ps) = withChk (pk0 kind f t (pieces ps)) (chk (pk0 kind f t (pieces ps))) := rfl
        have hBy : isB (pkB kind f t (pieces ps)) := pkB_byte hm hfb htb hpb
        have hBlen : (pkB kind f t (pieces ps)).length = N := by rw [pkB_length hf ht, HHL.out]; omega
        have hqr := chk_range h0b
        rw [hP0] at HO9 h0b h0l hBL hqr
        obtain ⟨A9, c9, rfl, hc9, _, hp9⟩ := own_slice HO9.out
        obtain ⟨g9, rfl, hg9b, hg9l, hob9⟩ := hp9 (by omega)
        have hrd9 := rd_own HO9.out h0b (by omega)
        have hch := refcheck_any (some ⟨g9, 0, none⟩) N c9 P0 w9 hrd9 (by omega)
        obtain ⟨q, hq⟩ : ∃ q, chk P0 = q := ⟨_, rfl⟩
        rw [hq] at hch hBL hqr
        obtain ⟨q0, q1⟩ := hqr
        have hcells : ∀ j, j < N → ∃ u, w9.cell? ⟨g9, j, none⟩ = some u := fun j hj => by
          have := HO9.out.cells hob9 j _ (List.getElem?_eq_getElem (l := P0.map (Value.int .u8)) (i := j) (by simp; omega))
          rw [show (⟨g9, 0, none⟩ : Addr).add j = ⟨g9, j, none⟩ by unfold Addr.add; split <;> simp_all] at this
          exact ⟨_, this⟩
        obtain ⟨u4, hu4⟩ := hcells 4 (by omega)
        obtain ⟨u5, hu5⟩ := hcells 5 (by omega)
        have hf4 : ∀ j, w9.frozen? ⟨g9, j, none⟩ = false := fun j => HO9.out.frozenAt j
        have hst1 := (HO9.out.stored 4 (.int .u8 (q / 256))).1
        have hst2 := (hst1.stored 5 (.int .u8 (q % 256))).1
        have hu5' : (w9.setCell ⟨g9, 4, none⟩ (.int .u8 (q / 256))).cell? ⟨g9, 5, none⟩ = some u5 := (World.cell?_setCell_other _ _ _ _ (by intro e; injection e with _ e _; cases e)).trans hu5
        have hf5 : (w9.setCell ⟨g9, 4, none⟩ (.int .u8 (q / 256))).frozen? ⟨g9, 5, none⟩ = false := hst1.frozenAt 5
        rw [← List.map_set, ← List.map_set, withChk_set, ← hBL] at hst2
        have hkS : Keeps (· = g9) w9 ((w9.setCell ⟨g9, 4, none⟩ (.int .u8 (q / 256))).setCell ⟨g9, 5, none⟩ (.int .u8 (q % 256))) := (Keeps.set1 w9 ⟨g9, 4, none⟩ _).trans (Keeps.set1 _ ⟨g9, 5, none⟩ _)
        have hBf : Below w.heap.size w ((w9.setCell ⟨g9, 4, none⟩ (.int .u8 (q / 256))).setCell ⟨g9, 5, none⟩ (.int .u8 (q % 256))) := below_keeps (HB23.out.trans (HB9.out.mono HB23.out.size)) hkS (Nat.le_refl _) (fun i hi => by rw [hi]; exact Nat.le_trans HB23.out.size hg9b)
        have hrdf := rd_own hst2 hBy (by omega)
        have HFIN := Lib.hid (And.intro hrdf (And.intro hBf hBlen))
        have HCH := Lib.hid hch
        have hf4' := hf4 4
        have w1' : IntKind.u8.wrap (q / 256) = q / 256 := IntWalk.u8_in _ (by omega)
        have w2' : IntKind.u8.wrap q = q % 256 := by simp [IntKind.wrap, IntKind.bits, IntKind.signed]
        have n4 : (4 : Int) < (N : Int) := by omega
        have n5 : (5 : Int) < (N : Int) := by omega
        clear hcat hN hP0 hpb h0b h0l hBL hBy hBlen hc9 hp9 hg9b hg9l hob9 hrd9 hch hcells hf4 hst1 hst2 hkS hBf hrdf hq
        go_wp2_with fail
        refine HCH.out.mono ?_; rintro e w10 ⟨rfl, rfl⟩
        go_wp2_with fail
        go_ret2
        exact .inr ⟨_, N, c9, HE.out, HFIN.out.2.2, rfl, HFIN.out.1, HFIN.out.2.1⟩
  · have hE : Hid (pkE kind ps = 1) := Lib.hid (by unfold pkE; rw [if_neg hm])
    rw [decide_eq_false hm] at hmay
    go_enter Tryz.func9, Tryz.ntmps9
    go_wp2_with (refine wpList_value (o := ⟨some 1, .box 27 _, _, _, _, _⟩) (v := .pointer (some ⟨w.heap.size, 0, none⟩)) (w' := w.alloc (.cells X.toArray 27)) rfl (by rfl) ?_; rw [hW])
    refine hmay.mono ?_; rintro e w2 ⟨rfl, rfl⟩
    go_wp2_with fail
    go_ret2
    exact .inl ⟨by rw [hE.out]; decide, by rw [hE.out]; rfl, HB0.out⟩
end Go.Proofs.YtjikjdignhdipaaGreatDoor
