/- The walk over packets.Get: bytes as a packet. -/
import Derived.Test.YtjikjdignhdipaaGreatDoorYRPacketsGet15
import Derived.Test.YtjikjdignhdipaaGreatDoorYRPacketsGet18
namespace Go.Proofs.YtjikjdignhdipaaGreatDoor
open Go.RowKit
set_option linter.unusedSimpArgs false
set_option linter.unusedVariables false

/-- What Get hands back. -/
def PkGot (w : World) (bs : List Int) (e : Ending) (w' : World) : Prop :=
  (pkGetE bs ≠ 0 ∧ e = .returned (.tuple #[.agg zPkt.toArray, .int .i64 (pkGetE bs)]) ∧ Below w.heap.size w w') ∨
  ∃ A n, pkGetE bs = 0 ∧ (paGet (bs.drop 40)).2.length = n ∧ e = .returned (.tuple #[.agg (pktC (bs[1]?.getD 0) ((bs.drop 8).take 16) ((bs.drop 24).take 16) (.slice A n n)).toArray, .int .i64 0]) ∧ PsKeep w.heap.size w' A n (paGet (bs.drop 40)).2 ∧ (A = none → n = 0) ∧ Below w.heap.size w w'
/-- What holds while Get works. -/
structure PkAt (w0 : World) (A : Option Addr) (n c : Nat) (Z : List Value) (w : World) : Prop where
  box : Blk w w0.heap.size 31 [.slice A n c]
  out : Blk w (w0.heap.size + 1) 27 Z
  below : Below w0.heap.size w0 w
theorem PkAt.next {w0 w w' : World} {A : Option Addr} {n c : Nat} {Z : List Value} (h : PkAt w0 A n c Z w) (hB : Below w.heap.size w w') : PkAt w0 A n c Z w' :=
  ⟨h.box.below hB h.box.lt, h.out.below hB h.out.lt, h.below.trans (hB.mono h.below.size)⟩
theorem PkAt.again {w0 w : World} {A : Option Addr} {n c : Nat} {Z : List Value} (h : PkAt w0 A n c Z w) : PkAt w0 A n c Z (w.setCells (w0.heap.size + 1) 0 Z) := by
  have k := Keeps.setCells (g := w0.heap.size + 1) Z 0 w
  refine ⟨h.box.keep k (by omega), ?_, below_keeps h.below k (Nat.le_refl _) (fun i hi => by omega)⟩
  have := Blk.setCells Z 0 _ _ h.out (by omega)
  rwa [splice_whole _ _ rfl] at this
def fun4 (X : Nat) : List Value := [.func (.func 80) #[] #[.pointer (some ⟨X, 0, none⟩)], .func (.func 81) #[] #[.pointer (some ⟨X, 0, none⟩)], .func (.func 83) #[] #[.pointer (some ⟨X, 0, none⟩)], .func (.func 84) #[] #[.pointer (some ⟨X, 0, none⟩)]]
def askN (k : Nat) (b : List Int) : Bool := match k with | 0 => ask1 b | 1 => ask2 b | 2 => ask3 b | _ => ask4 b

set_option maxRecDepth 100000 in
set_option maxHeartbeats 4000000 in
theorem pkget_any (A0 : Option Addr) (n0 c0 : Nat) (bs : List Int) (w : World) (r0 : Rd w .u8 A0 n0 bs) (l0 : n0 ≤ c0) (hz0 : A0 = none → c0 = 0) :
    Calls Tryz.prog 16 #[.slice A0 n0 c0] w (PkGot w bs) := by
  have hbig := r0.big
  have hl := r0.len
  have hu : Tryz.prog.underlying 27 = some (.struct _) := Tryz.underlying27
  obtain ⟨Z, hZ⟩ : ∃ Z, zPkt = Z := ⟨_, rfl⟩
  have hZl : Z.length = 34 := by rw [← hZ]; exact pktC_length rfl rfl
  have hZ1 : ∀ v ∈ Z, v.oneCell' = true := by rw [← hZ]; exact pktC_one
  have hsz : (Tryz.prog.info? 27).map (·.size) = some Z.length := by rw [hZl]; exact info_pkt
  have hst : PkAt w A0 n0 c0 Z ((w.alloc (.cells #[.slice A0 n0 c0] 31)).alloc (.cells Z.toArray 27)) := by
    have k1 := Blk.new w 31 [.slice A0 n0 c0]
    have k2 := Blk.new (w.alloc (.cells #[.slice A0 n0 c0] 31)) 27 Z
    rw [World.size_alloc] at k2
    exact ⟨k1.alloc _, k2, ((Below.refl _ _).alloc (Nat.le_refl _) _).alloc (by simp) _⟩
  have HSZ := Lib.hid hsz
  have HZ1 := Lib.hid hZ1
  have HZL := Lib.hid hZl
  have HU := Lib.hid hu
  have HZ := Lib.hid hZ
  have HST := Lib.hid hst
  have hbx := hst.box.cell 0
  simp only [List.getElem?_cons_zero] at hbx
  clear hst hsz hZ1 hZl hu hZ
  obtain ⟨P, hP⟩ : ∃ P, w.heap.size + 1 = P := ⟨_, rfl⟩
  have HP := Lib.hid hP
  by_cases h2048 : 2048 < n0
  · have hE : Hid (pkGetE bs = 3) := Lib.hid (by unfold pkGetE; rw [if_pos (by omega)])
    have h' : (2048 : Int) < (n0 : Int) := by omega
    go_enter Tryz.func16, Tryz.ntmps16
    go_wp2_with (first
      | (refine wpList_value (o := ⟨some 2, .alloc 27, _, _, _, _⟩) (v := .pointer (some ⟨(w.alloc (.cells #[.slice A0 n0 c0] 31)).heap.size, 0, none⟩)) (w' := (w.alloc (.cells #[.slice A0 n0 c0] 31)).alloc (.cells zPkt.toArray 27)) rfl (by kernel_rfl) ?_; rw [HZ.out, World.size_alloc, hP])
      | (refine wpList_load_mid rfl 27 _ rfl P 0 rfl Z _ (by have := HST.out.out; rw [hP] at this; exact this.range) HU.out rfl HSZ.out ?_)
      | (refine wpList_store_mid rfl 27 _ _ rfl P 0 Z.toArray rfl rfl (by have := HST.out.out; rw [hP] at this; exact this.there 0 _ (by simp)) (by simpa using HSZ.out) (all_oneCell_toArray HZ1.out) ?_))
    have hfin := HST.out.again
    rw [hP] at hfin
    refine bodyPost_ret (results_row_tmp rfl _ _ P Z _ rfl (by have := hfin.out; rw [hP] at this; exact this) HU.out rfl HSZ.out) rfl ?_
    exact .inl ⟨by rw [hE.out]; decide, by rw [hE.out, HZ.out]; rfl, hfin.below⟩
  · by_cases h40 : n0 < 40
    · have hE : Hid (pkGetE bs = 5) := Lib.hid (by unfold pkGetE; rw [if_neg (by omega), if_pos (by omega)])
      have h' : ¬ ((2048 : Int) < (n0 : Int)) := by omega
      have h'' : (n0 : Int) < 40 := by omega
      go_enter Tryz.func16, Tryz.ntmps16
      go_wp2_with (first
        | (refine wpList_value (o := ⟨some 2, .alloc 27, _, _, _, _⟩) (v := .pointer (some ⟨(w.alloc (.cells #[.slice A0 n0 c0] 31)).heap.size, 0, none⟩)) (w' := (w.alloc (.cells #[.slice A0 n0 c0] 31)).alloc (.cells zPkt.toArray 27)) rfl (by kernel_rfl) ?_; rw [HZ.out, World.size_alloc, hP])
        | (refine wpList_load_mid rfl 27 _ rfl P 0 rfl Z _ (by have := HST.out.out; rw [hP] at this; exact this.range) HU.out rfl HSZ.out ?_)
        | (refine wpList_store_mid rfl 27 _ _ rfl P 0 Z.toArray rfl rfl (by have := HST.out.out; rw [hP] at this; exact this.there 0 _ (by simp)) (by simpa using HSZ.out) (all_oneCell_toArray HZ1.out) ?_))
      have hfin := HST.out.again
      rw [hP] at hfin
      refine bodyPost_ret (results_row_tmp rfl _ _ P Z _ rfl (by have := hfin.out; rw [hP] at this; exact this) HU.out rfl HSZ.out) rfl ?_
      exact .inl ⟨by rw [hE.out]; decide, by rw [hE.out, HZ.out]; rfl, hfin.below⟩
    · have hE : Hid (pkGetE bs = if okB bs = false then 4 else (paGet (bs.drop 40)).1) := Lib.hid (by unfold pkGetE; rw [if_neg (by omega), if_neg (by omega)])
      have h' : ¬ ((2048 : Int) < (n0 : Int)) := by omega
      have h'' : ¬ ((n0 : Int) < 40) := by omega
      have HR0 := Lib.hid r0
      have hr1 : ∀ W, PkAt w A0 n0 c0 Z W → ∀ k, k < 4 → Calls Tryz.prog (match k with | 0 => 80 | 1 => 81 | 2 => 83 | _ => 84) #[.pointer (some ⟨w.heap.size, 0, none⟩)] W fun e w' => e = .returned (.bool (askN k bs)) ∧ PkAt w A0 n0 c0 Z w' ∧ ∀ F cs, Blk W F 29 cs → Blk w' F 29 cs := fun W h k hk => by
        have ra := r0.below h.below
        rcases k with _ | _ | _ | _ | k
        · refine (ask1_any w.heap.size A0 n0 c0 bs W ra l0 hz0 (by omega) (h.box.cell 0) h.box.lt).mono ?_
          rintro e w' ⟨rfl, rfl⟩; exact ⟨rfl, h, fun _ _ h => h⟩
        · refine (ask2_any w.heap.size A0 n0 c0 bs W ra l0 hz0 (by omega) (h.box.cell 0) h.box.lt).mono ?_
          rintro e w' ⟨rfl, hB⟩; exact ⟨rfl, h.next hB, fun _ _ h => h.below hB h.lt⟩
        · refine (ask3_any w.heap.size A0 n0 c0 bs W ra l0 hz0 (by omega) (h.box.cell 0) h.box.lt).mono ?_
          rintro e w' ⟨rfl, rfl⟩; exact ⟨rfl, h, fun _ _ h => h⟩
        · refine (ask4_any w.heap.size A0 n0 c0 bs W ra l0 hz0 (by omega) (h.box.cell 0) h.box.lt).mono ?_
          rintro e w' ⟨rfl, hB⟩; exact ⟨rfl, h.next hB, fun _ _ h => h.below hB h.lt⟩
        · omega
      have HASK := Lib.hid hr1
      have hst2 : PkAt w A0 n0 c0 Z (((w.alloc (.cells #[.slice A0 n0 c0] 31)).alloc (.cells Z.toArray 27)).alloc (.cells (fun4 w.heap.size).toArray 29)) := HST.out.next (new_below _ _)
      have hF := Blk.new ((w.alloc (.cells #[.slice A0 n0 c0] 31)).alloc (.cells Z.toArray 27)) 29 (fun4 w.heap.size)
      obtain ⟨F, hFF⟩ : ∃ F, ((w.alloc (.cells #[.slice A0 n0 c0] 31)).alloc (.cells Z.toArray 27)).heap.size = F := ⟨_, rfl⟩
      rw [hFF] at hF
      have HST2 := Lib.hid hst2
      have HF := Lib.hid hF
      simp only [World.size_alloc] at hFF
      rw [hP] at hFF
      subst hFF
      clear hr1 hst2 hF r0
      go_enter Tryz.func16, Tryz.ntmps16
      go_wp2_with (first
        | (refine wpList_value (o := ⟨some 2, .alloc 27, _, _, _, _⟩) (v := .pointer (some ⟨(w.alloc (.cells #[.slice A0 n0 c0] 31)).heap.size, 0, none⟩)) (w' := (w.alloc (.cells #[.slice A0 n0 c0] 31)).alloc (.cells zPkt.toArray 27)) rfl (by kernel_rfl) ?_; rw [HZ.out, World.size_alloc, hP]))
      go_loopw [25] (fun i wr => ∃ k : Nat, k ≤ 4 ∧ i = .int .i64 k ∧ (∀ j, j < k → askN j bs = true) ∧ PkAt w A0 n0 c0 Z wr ∧ Blk wr (P + 1) 29 (fun4 w.heap.size)) (fun i _ => 4 - (intOf i).toNat)
      case atStart => exact ⟨0, by omega, rfl, fun j hj => absurd hj (by omega), HST2.out, HF.out⟩
      case round =>
        obtain ⟨k, hk, rfl, hpre, hst, hf⟩ := hrel
        have HPRE := Lib.hid hpre
        have HSTK := Lib.hid hst
        have HFK := Lib.hid hf
        have hbx2 := hst.box.cell 0
        simp only [List.getElem?_cons_zero] at hbx2
        clear hpre hst
        have hcase : k = 0 ∨ k = 1 ∨ k = 2 ∨ k = 3 ∨ k = 4 := by omega
        rcases hcase with rfl | rfl | rfl | rfl | rfl
        · have hask := HASK.out wr HSTK.out 0 (by omega)
          have hce : wr.cell? ⟨P + 1, 0, none⟩ = some (.func (.func 80) #[] #[.pointer (some ⟨w.heap.size, 0, none⟩)]) := hf.cell 0
          clear hf
          simp only [] at hask
          generalize hb : askN 0 bs = b at hask
          have HB := Lib.hid hb
          clear hb
          cases b with
          | true =>
            go_wp2_with fail
            refine hask.mono ?_; rintro e w4 ⟨rfl, hst4, hF4⟩
            have HST4 := Lib.hid hst4
            have HF4 := Lib.hid (hF4 _ _ HFK.out)
            clear hst4 hF4
            go_wp2_with fail
            refine ⟨⟨1, by omega, by go_num, ?_, HST4.out, HF4.out⟩, by simp [intOf]⟩
            intro j hj
            rcases Nat.lt_or_ge j 0 with h | h
            · exact HPRE.out j h
            · obtain rfl : j = 0 := by omega
              exact HB.out
          | false =>
            have hE4 : Hid (pkGetE bs = 4) := Lib.hid (by
              have h0 : askN 0 bs = false := HB.out
              rw [hE.out, if_pos]; rw [okB_asks]; simp only [askN] at h0; rw [h0]; simp)
            go_wp2_with fail
            refine hask.mono ?_; rintro e w4 ⟨rfl, hst4, hF4⟩
            have HST4 := Lib.hid hst4
            clear hst4 hF4
            go_wp2_with (first
              | (refine wpList_load_mid rfl 27 _ rfl P 0 rfl Z _ (by have := HST4.out.out; rw [hP] at this; exact this.range) HU.out rfl HSZ.out ?_)
              | (refine wpList_store_mid rfl 27 _ _ rfl P 0 Z.toArray rfl rfl (by have := HST4.out.out; rw [hP] at this; exact this.there 0 _ (by simp)) (by simpa using HSZ.out) (all_oneCell_toArray HZ1.out) ?_))
            have hfin := HST4.out.again
            rw [hP] at hfin
            refine bodyPost_ret (results_row_tmp rfl _ _ P Z _ rfl (by have := hfin.out; rw [hP] at this; exact this) HU.out rfl HSZ.out) rfl ?_
            exact .inl ⟨by rw [hE4.out]; decide, by rw [hE4.out, HZ.out]; rfl, hfin.below⟩
        · have hask := HASK.out wr HSTK.out 1 (by omega)
          have hce : wr.cell? ⟨P + 1, 1, none⟩ = some (.func (.func 81) #[] #[.pointer (some ⟨w.heap.size, 0, none⟩)]) := hf.cell 1
          clear hf
          simp only [] at hask
          generalize hb : askN 1 bs = b at hask
          have HB := Lib.hid hb
          clear hb
          cases b with
          | true =>
            go_wp2_with fail
            refine hask.mono ?_; rintro e w4 ⟨rfl, hst4, hF4⟩
            have HST4 := Lib.hid hst4
            have HF4 := Lib.hid (hF4 _ _ HFK.out)
            clear hst4 hF4
            go_wp2_with fail
            refine ⟨⟨2, by omega, by go_num, ?_, HST4.out, HF4.out⟩, by simp [intOf]⟩
            intro j hj
            rcases Nat.lt_or_ge j 1 with h | h
            · exact HPRE.out j h
            · obtain rfl : j = 1 := by omega
              exact HB.out
          | false =>
            have hE4 : Hid (pkGetE bs = 4) := Lib.hid (by
              have h0 : askN 1 bs = false := HB.out
              rw [hE.out, if_pos]; rw [okB_asks]; simp only [askN] at h0; rw [h0]; simp)
            go_wp2_with fail
            refine hask.mono ?_; rintro e w4 ⟨rfl, hst4, hF4⟩
            have HST4 := Lib.hid hst4
            clear hst4 hF4
            go_wp2_with (first
              | (refine wpList_load_mid rfl 27 _ rfl P 0 rfl Z _ (by have := HST4.out.out; rw [hP] at this; exact this.range) HU.out rfl HSZ.out ?_)
              | (refine wpList_store_mid rfl 27 _ _ rfl P 0 Z.toArray rfl rfl (by have := HST4.out.out; rw [hP] at this; exact this.there 0 _ (by simp)) (by simpa using HSZ.out) (all_oneCell_toArray HZ1.out) ?_))
            have hfin := HST4.out.again
            rw [hP] at hfin
            refine bodyPost_ret (results_row_tmp rfl _ _ P Z _ rfl (by have := hfin.out; rw [hP] at this; exact this) HU.out rfl HSZ.out) rfl ?_
            exact .inl ⟨by rw [hE4.out]; decide, by rw [hE4.out, HZ.out]; rfl, hfin.below⟩
        · have hask := HASK.out wr HSTK.out 2 (by omega)
          have hce : wr.cell? ⟨P + 1, 2, none⟩ = some (.func (.func 83) #[] #[.pointer (some ⟨w.heap.size, 0, none⟩)]) := hf.cell 2
          clear hf
          simp only [] at hask
          generalize hb : askN 2 bs = b at hask
          have HB := Lib.hid hb
          clear hb
          cases b with
          | true =>
            go_wp2_with fail
            refine hask.mono ?_; rintro e w4 ⟨rfl, hst4, hF4⟩
            have HST4 := Lib.hid hst4
            have HF4 := Lib.hid (hF4 _ _ HFK.out)
            clear hst4 hF4
            go_wp2_with fail
            refine ⟨⟨3, by omega, by go_num, ?_, HST4.out, HF4.out⟩, by simp [intOf]⟩
            intro j hj
            rcases Nat.lt_or_ge j 2 with h | h
            · exact HPRE.out j h
            · obtain rfl : j = 2 := by omega
              exact HB.out
          | false =>
            have hE4 : Hid (pkGetE bs = 4) := Lib.hid (by
              have h0 : askN 2 bs = false := HB.out
              rw [hE.out, if_pos]; rw [okB_asks]; simp only [askN] at h0; rw [h0]; simp)
            go_wp2_with fail
            refine hask.mono ?_; rintro e w4 ⟨rfl, hst4, hF4⟩
            have HST4 := Lib.hid hst4
            clear hst4 hF4
            go_wp2_with (first
              | (refine wpList_load_mid rfl 27 _ rfl P 0 rfl Z _ (by have := HST4.out.out; rw [hP] at this; exact this.range) HU.out rfl HSZ.out ?_)
              | (refine wpList_store_mid rfl 27 _ _ rfl P 0 Z.toArray rfl rfl (by have := HST4.out.out; rw [hP] at this; exact this.there 0 _ (by simp)) (by simpa using HSZ.out) (all_oneCell_toArray HZ1.out) ?_))
            have hfin := HST4.out.again
            rw [hP] at hfin
            refine bodyPost_ret (results_row_tmp rfl _ _ P Z _ rfl (by have := hfin.out; rw [hP] at this; exact this) HU.out rfl HSZ.out) rfl ?_
            exact .inl ⟨by rw [hE4.out]; decide, by rw [hE4.out, HZ.out]; rfl, hfin.below⟩
        · have hask := HASK.out wr HSTK.out 3 (by omega)
          have hce : wr.cell? ⟨P + 1, 3, none⟩ = some (.func (.func 84) #[] #[.pointer (some ⟨w.heap.size, 0, none⟩)]) := hf.cell 3
          clear hf
          simp only [] at hask
          generalize hb : askN 3 bs = b at hask
          have HB := Lib.hid hb
          clear hb
          cases b with
          | true =>
            go_wp2_with fail
            refine hask.mono ?_; rintro e w4 ⟨rfl, hst4, hF4⟩
            have HST4 := Lib.hid hst4
            have HF4 := Lib.hid (hF4 _ _ HFK.out)
            clear hst4 hF4
            go_wp2_with fail
            refine ⟨⟨4, by omega, by go_num, ?_, HST4.out, HF4.out⟩, by simp [intOf]⟩
            intro j hj
            rcases Nat.lt_or_ge j 3 with h | h
            · exact HPRE.out j h
            · obtain rfl : j = 3 := by omega
              exact HB.out
          | false =>
            have hE4 : Hid (pkGetE bs = 4) := Lib.hid (by
              have h0 : askN 3 bs = false := HB.out
              rw [hE.out, if_pos]; rw [okB_asks]; simp only [askN] at h0; rw [h0]; simp)
            go_wp2_with fail
            refine hask.mono ?_; rintro e w4 ⟨rfl, hst4, hF4⟩
            have HST4 := Lib.hid hst4
            clear hst4 hF4
            go_wp2_with (first
              | (refine wpList_load_mid rfl 27 _ rfl P 0 rfl Z _ (by have := HST4.out.out; rw [hP] at this; exact this.range) HU.out rfl HSZ.out ?_)
              | (refine wpList_store_mid rfl 27 _ _ rfl P 0 Z.toArray rfl rfl (by have := HST4.out.out; rw [hP] at this; exact this.there 0 _ (by simp)) (by simpa using HSZ.out) (all_oneCell_toArray HZ1.out) ?_))
            have hfin := HST4.out.again
            rw [hP] at hfin
            refine bodyPost_ret (results_row_tmp rfl _ _ P Z _ rfl (by have := hfin.out; rw [hP] at this; exact this) HU.out rfl HSZ.out) rfl ?_
            exact .inl ⟨by rw [hE4.out]; decide, by rw [hE4.out, HZ.out]; rfl, hfin.below⟩
        · have hok : okB bs = true := by
            have a0 := HPRE.out 0 (by omega)
            have a1 := HPRE.out 1 (by omega)
            have a2 := HPRE.out 2 (by omega)
            have a3 := HPRE.out 3 (by omega)
            simp only [askN] at a0 a1 a2 a3
            rw [okB_asks, a0, a1, a2, a3]; rfl
          have hE5 : Hid (pkGetE bs = (paGet (bs.drop 40)).1) := Lib.hid (by rw [hE.out, if_neg (by rw [hok]; simp)])
          obtain ⟨A7, hs7', hr7, hz7⟩ := slice_from A0 n0 c0 40 (by omega) l0 hz0
          have hs7 : ∀ W : World, (Instr.slice 31 (.slice A0 n0 c0) (some (.int .i64 40)) none none).run Tryz.prog W = .ok (.slice A7 (n0 - 40) (c0 - 40)) W := hs7'
          have hpg := paget_any A7 (n0 - 40) (c0 - 40) (bs.drop 40) wr (hr7 wr bs (HR0.out.below HSTK.out.below)) (by omega) hz7
          clear hr7 hz7 hs7' hf hok
          go_wp2_with fail
          refine hpg.mono ?_
          rintro e w5 (⟨hne, rfl, hB5⟩ | ⟨A8, h00, rfl, hps, hz8, hB5⟩)
          · have HST5 := Lib.hid (HSTK.out.next hB5)
            have HNE : Hid ((paGet (bs.drop 40)).1 ≠ 0) := Lib.hid hne
            generalize (paGet (bs.drop 40)).1 = E at *
            clear hB5 hpg
            go_wp2_with (first
              | (refine wpList_load_mid rfl 27 _ rfl P 0 rfl Z _ (by have := HST5.out.out; rw [hP] at this; exact this.range) HU.out rfl HSZ.out ?_)
              | (refine wpList_store_mid rfl 27 _ _ rfl P 0 Z.toArray rfl rfl (by have := HST5.out.out; rw [hP] at this; exact this.there 0 _ (by simp)) (by simpa using HSZ.out) (all_oneCell_toArray HZ1.out) ?_))
            have hfin := HST5.out.again
            rw [hP] at hfin
            refine bodyPost_ret (results_row_tmp rfl _ _ P Z _ rfl (by have := hfin.out; rw [hP] at this; exact this) HU.out rfl HSZ.out) rfl ?_
            exact .inl ⟨by rw [hE5.out]; exact HNE.out, by rw [hE5.out, HZ.out]; rfl, hfin.below⟩
          · have hst5 := HSTK.out.next hB5
            have hE6 : Hid (pkGetE bs = 0) := Lib.hid (by rw [hE5.out, h00])
            obtain ⟨m, hm⟩ : ∃ m, (paGet (bs.drop 40)).2.length = m := ⟨_, rfl⟩
            rw [hm] at hps hz8 ⊢
            have HM := Lib.hid hm
            have HPS := Lib.hid hps
            have HZ8 := Lib.hid hz8
            obtain ⟨b, off, rfl, hb, hc⟩ := (HR0.out.below hst5.below).row (by omega)
            have hc1 : w5.cell? ⟨b, off + 1, none⟩ = some (.int .u8 (bs[1]?.getD 0)) := hc 1 (by omega)
            obtain ⟨kd, hkd⟩ : ∃ kd, bs[1]?.getD 0 = kd := ⟨_, rfl⟩
            rw [hkd] at hc1
            have HKD := Lib.hid hkd
            clear hkd
            have hbx5 := hst5.box.cell 0
            simp only [List.getElem?_cons_zero] at hbx5
            have hk5 := hst5.out
            rw [hP] at hk5
            have hq1 : 1 < n0 := by omega
            have hPn : ¬ (P = w.heap.size) := by omega
            have hPn2 : ¬ (w.heap.size = P) := by omega
            have hf0 := hk5.free 0
            have hf33 := hk5.free 33
            obtain ⟨x0, hx0⟩ : ∃ x, w5.cell? ⟨P, 0, none⟩ = some x := ⟨_, (hk5.cell 0).trans (List.getElem?_eq_getElem (by rw [HZL.out]; omega))⟩
            obtain ⟨x33, hx33⟩ : ∃ x, w5.cell? ⟨P, 33, none⟩ = some x := ⟨_, (hk5.cell 33).trans (List.getElem?_eq_getElem (by rw [HZL.out]; omega))⟩
            have HK6 : Hid (∀ kd, Blk ((w5.setCell ⟨P, 0, none⟩ (.int .u8 kd)).setCell ⟨P, 33, none⟩ (.slice A8 m m)) P 27 (pktC kd zer16 zer16 (.slice A8 m m))) := Lib.hid (fun kd => by
              have := (hk5.put 0 (.int .u8 kd)).put 33 (.slice A8 m m)
              rwa [← HZ.out, zPkt, pktC_set0, pktC_set33 rfl rfl] at this)
            have HKP6 : Hid (∀ kd, Keeps (· = P) w5 ((w5.setCell ⟨P, 0, none⟩ (.int .u8 kd)).setCell ⟨P, 33, none⟩ (.slice A8 m m))) := Lib.hid (fun kd => (Keeps.set1 w5 ⟨P, 0, none⟩ _).trans (Keeps.set1 _ ⟨P, 33, none⟩ _))
            have HST5 := Lib.hid hst5
            obtain ⟨A9, hs9', hr9, hz9⟩ := slice_from (some ⟨b, off, none⟩) n0 c0 8 (by omega) l0 hz0
            have hs9 : ∀ W : World, (Instr.slice 31 (.slice (some ⟨b, off, none⟩) n0 c0) (some (.int .i64 8)) none none).run Tryz.prog W = .ok (.slice A9 (n0 - 8) (c0 - 8)) W := hs9'
            obtain ⟨A10, hs10', hr10, hz10⟩ := slice_from (some ⟨b, off, none⟩) n0 c0 24 (by omega) l0 hz0
            have hs10 : ∀ W : World, (Instr.slice 31 (.slice (some ⟨b, off, none⟩) n0 c0) (some (.int .i64 24)) none none).run Tryz.prog W = .ok (.slice A10 (n0 - 24) (c0 - 24)) W := hs10'
            have HR9 := Lib.hid hr9
            have HR10 := Lib.hid hr10
            clear hst5 h00 hm hps hz8 hc hk5 hB5 hpg hr9 hz9 hs9' hr10 hz10 hs10' hb
            go_wp2_with fail
            have hk6 := HK6.out kd
            have hkp6 := HKP6.out kd
            generalize (w5.setCell ⟨P, 0, none⟩ (.int .u8 kd)).setCell ⟨P, 33, none⟩ (.slice A8 m m) = w6 at *
            have hbx6 : w6.cell? ⟨w.heap.size, 0, none⟩ = some (.slice (some ⟨b, off, none⟩) n0 c0) := (hkp6.cell (p := ⟨w.heap.size, 0, none⟩) (HST5.out.box.lt) hPn2).trans hbx5
            have hB6 : Below w.heap.size w w6 := below_keeps HST5.out.below hkp6 (Nat.le_refl _) (fun i hi => by omega)
            have hPlt : P < wr.heap.size := by have := HSTK.out.out.lt; omega
            have hps6 := HPS.out.step (base' := P + 1) hkp6 (fun i hi => by omega) (by omega)
            have hBd : Below w.heap.size w w6.drew := hB6.trans ((drew_below w6).mono hB6.size)
            have rd9 := HR9.out _ _ (HR0.out.below hBd)
            have HPOS9 := Lib.hid (cells_of_rd rd9 (k := 16) (by omega) P 1 (some ⟨P, 1, none⟩) (fun _ => rfl))
            have HCL9 : Hid ((((bs.drop 8).take 16).map (Value.int .u8)).length = Nat.min (n0 - 8) 16) := Lib.hid (by rw [List.length_map, List.length_take, List.length_drop, hl]; exact Nat.min_comm _ _)
            have HK6D : Hid (Blk w6.drew P 27 (pktC kd zer16 zer16 (.slice A8 m m))) := Lib.hid hk6
            have HB6 := Lib.hid hB6
            have HPS6 := Lib.hid hps6
            have hfr : ((bs.drop 8).take 16).length = 16 := by simp [hl]; omega
            have hto : ((bs.drop 24).take 16).length = 16 := by simp [hl]; omega
            have HFR := Lib.hid hfr
            have HTO := Lib.hid hto
            have hl17 : (pktC kd zer16 zer16 (.slice A8 m m)).length = 34 := pktC_length rfl rfl
            have HL17 := Lib.hid hl17
            clear hkp6 hk6 hps6 hB6 hBd rd9 hfr hto hl17 hbx5 hx0 hx33 hf0 hf33 hc1
            go_region_held3 (fun w' => w'.cell? ⟨w.heap.size, 0, none⟩ = some (.slice (some ⟨b, off, none⟩) n0 c0)) ((first | assumption | (go_keep; done)))
              (first
                | (refine step_copy rfl _ _ 31 31 rfl 5 Tryz.underlying31 size_u8 (some ⟨P, 1, none⟩) A9 16 16 (n0 - 8) (c0 - 8) (by simp [Act.eval, Act.put]) (by simp [Act.eval, Act.put]) P 1 _ 27 HK6D.out (((bs.drop 8).take 16).map (Value.int .u8)) HCL9.out (fun h0 => ⟨rfl, (HPOS9.out h0).2⟩) (by rw [List.length_map, HFR.out, HL17.out]; omega) (one_u8 _) ?_
                   intro w7 hb7 hk7
                   have hbx7 : w7.cell? ⟨w.heap.size, 0, none⟩ = some (.slice (some ⟨b, off, none⟩) n0 c0) := (hk7.cell (p := ⟨w.heap.size, 0, none⟩) (Nat.lt_of_lt_of_le (World.block_lt_of_cell? _ _ hbx6) (Nat.le_refl _)) hPn2).trans hbx6
                   have HK7 := Lib.hid hk7
                   clear hk7))
            have hk7 := hb7.out
            rw [pktC_splice1 rfl HFR.out] at hk7
            have hB7 : Below w.heap.size w w7 := below_keeps (HB6.out.trans ((drew_below w6).mono HB6.out.size)) HK7.out (Nat.le_refl _) (fun i hi => by omega)
            have hps7 := HPS6.out.step (base' := P + 1) (Keeps.mono (M := fun _ => False) (Keeps.of_below (drew_below w6)) (M' := fun i => i = P) (fun _ h => h.elim)) (fun i hi => by omega) (Nat.le_refl _) |>.step (base' := P + 1) HK7.out (fun i hi => by omega) (Nat.le_refl _)
            have hBd7 : Below w.heap.size w w7.drew := hB7.trans ((drew_below w7).mono hB7.size)
            have rd10 := HR10.out _ _ (HR0.out.below hBd7)
            have HPOS10 := Lib.hid (cells_of_rd rd10 (k := 16) (by omega) P 17 (some ⟨P, 17, none⟩) (fun _ => rfl))
            have HCL10 : Hid ((((bs.drop 24).take 16).map (Value.int .u8)).length = Nat.min (n0 - 24) 16) := Lib.hid (by rw [List.length_map, List.length_take, List.length_drop, hl]; exact Nat.min_comm _ _)
            have HK7D : Hid (Blk w7.drew P 27 (pktC kd ((bs.drop 8).take 16) zer16 (.slice A8 m m))) := Lib.hid hk7
            have hl18 : (pktC kd ((bs.drop 8).take 16) zer16 (.slice A8 m m)).length = 34 := pktC_length HFR.out rfl
            have HL18 := Lib.hid hl18
            have HB7 := Lib.hid hB7
            have HPS7 := Lib.hid hps7
            clear hk7 hB7 hps7 hBd7 rd10 hb7 hl18
            go_wp2_with fail
            go_region_held3 (fun w' => w'.cell? ⟨w.heap.size, 0, none⟩ = some (.slice (some ⟨b, off, none⟩) n0 c0)) ((first | assumption | (go_keep; done)))
              (first
                | (refine step_copy rfl _ _ 31 31 rfl 5 Tryz.underlying31 size_u8 (some ⟨P, 17, none⟩) A10 16 16 (n0 - 24) (c0 - 24) (by simp [Act.eval, Act.put]) (by simp [Act.eval, Act.put]) P 17 _ 27 HK7D.out (((bs.drop 24).take 16).map (Value.int .u8)) HCL10.out (fun h0 => ⟨rfl, (HPOS10.out h0).2⟩) (by rw [List.length_map, HTO.out, HL18.out]; omega) (one_u8 _) ?_
                   intro w8 hb8 hk8
                   have hbx8 : w8.cell? ⟨w.heap.size, 0, none⟩ = some (.slice (some ⟨b, off, none⟩) n0 c0) := (hk8.cell (p := ⟨w.heap.size, 0, none⟩) (Nat.lt_of_lt_of_le (World.block_lt_of_cell? _ _ hbx7) (Nat.le_refl _)) hPn2).trans hbx7
                   have HK8 := Lib.hid hk8
                   clear hk8))
            have hk8 := hb8.out
            rw [pktC_splice17 HFR.out rfl HTO.out] at hk8
            have hB8 : Below w.heap.size w w8 := below_keeps (HB7.out.trans ((drew_below w7).mono HB7.out.size)) HK8.out (Nat.le_refl _) (fun i hi => by omega)
            have hps8 := HPS7.out.step (base' := P + 1) (Keeps.mono (M := fun _ => False) (Keeps.of_below (drew_below w7)) (M' := fun i => i = P) (fun _ h => h.elim)) (fun i hi => by omega) (Nat.le_refl _) |>.step (base' := P + 1) HK8.out (fun i hi => by omega) (Nat.le_refl _)
            have HB8 := Lib.hid hB8
            have HPS8 := Lib.hid hps8
            have HK8B := Lib.hid hk8
            have HL19 : Hid ((pktC kd ((bs.drop 8).take 16) ((bs.drop 24).take 16) (.slice A8 m m)).length = 34) := Lib.hid (pktC_length HFR.out HTO.out)
            have HONE : Hid (∀ v ∈ pktC kd ((bs.drop 8).take 16) ((bs.drop 24).take 16) (.slice A8 m m), v.oneCell' = true) := Lib.hid pktC_one
            obtain ⟨ZZ, hZZ⟩ : ∃ ZZ, pktC kd ((bs.drop 8).take 16) ((bs.drop 24).take 16) (.slice A8 m m) = ZZ := ⟨_, rfl⟩
            rw [hZZ] at HL19 HONE HK8B
            have HZZ := Lib.hid hZZ
            have HSZ2 : Hid ((Tryz.prog.info? 27).map (·.size) = some ZZ.length) := Lib.hid (by rw [HL19.out]; exact info_pkt)
            clear hk8 hB8 hps8 hb8 hZZ
            go_wp2_with (first
              | (refine wpList_load_mid rfl 27 _ rfl P 0 rfl ZZ _ HK8B.out.range HU.out rfl HSZ2.out ?_)
              | (refine wpList_store_mid rfl 27 _ _ rfl P 0 ZZ.toArray rfl rfl (HK8B.out.there 0 _ (by simp)) (by simpa using HSZ2.out) (all_oneCell_toArray HONE.out) ?_))
            have hkf := Blk.setCells ZZ 0 _ _ HK8B.out (by omega)
            rw [splice_whole _ _ rfl] at hkf
            have hkk := Keeps.setCells (g := P) ZZ 0 w8
            refine bodyPost_ret (results_row_tmp rfl _ _ P ZZ _ rfl hkf HU.out rfl HSZ2.out) rfl ?_
            refine .inr ⟨A8, m, hE6.out, HM.out, ?_, ?_, HZ8.out, below_keeps HB8.out hkk (Nat.le_refl _) (fun i hi => by omega)⟩
            · rw [HKD.out, HZZ.out]; rfl
            · exact HPS8.out.step (base' := w.heap.size) hkk (fun i hi => by omega) (by omega)
end Go.Proofs.YtjikjdignhdipaaGreatDoor
