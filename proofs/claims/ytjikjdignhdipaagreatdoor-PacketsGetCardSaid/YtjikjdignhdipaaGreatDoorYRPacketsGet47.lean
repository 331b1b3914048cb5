/- The walk over the law PacketsGet. -/
import Derived.Test.YtjikjdignhdipaaGreatDoorYRPacketsGet20
import Derived.Test.YtjikjdignhdipaaGreatDoorYRPacketsGet35
import Derived.Test.YtjikjdignhdipaaGreatDoorYRPacketsGet36
import Derived.Test.YtjikjdignhdipaaGreatDoorYRPacketsGet45
import Derived.Test.YtjikjdignhdipaaGreatDoorYRPacketsGet21
import Derived.Test.YtjikjdignhdipaaGreatDoorYRPacketsGet23
import Derived.Test.YtjikjdignhdipaaGreatDoorYRPacketsGet27
import Derived.Test.YtjikjdignhdipaaGreatDoorYRPacketsGet46
namespace Go.Proofs.YtjikjdignhdipaaGreatDoor
open Go.RowKit
set_option linter.unusedSimpArgs false
set_option linter.unusedVariables false

theorem getGo_small : ∀ (f : Nat) (last : Int) (out : List Piece) (b : List Int), b.length ≤ 2048 → out.length ≤ 16 → (∀ p ∈ out, p.2.length ≤ 2048) → (getGo f last out b).2.length ≤ 16 ∧ ∀ p ∈ (getGo f last out b).2, p.2.length ≤ 2048 := by
  intro f
  induction f with
  | zero => intro last out b _ _ _; simp [getGo]
  | succ f ih =>
    intro last out b hb ho hp
    unfold getGo
    split
    · exact ⟨ho, hp⟩
    · split
      · simp
      · split
        · simp
        · split
          · simp
          · split
            · simp
            · split
              · simp
              · refine ih _ _ _ (by rw [List.length_drop]; omega) (by rw [List.length_append]; simp; omega) (fun p hp' => ?_)
                rcases List.mem_append.1 hp' with h | h
                · exact hp p h
                · obtain rfl := List.mem_singleton.1 h
                  simp only [List.length_take, List.length_drop]; omega
theorem paGet_small (b : List Int) : (paGet b).2.length ≤ 16 ∧ ∀ p ∈ (paGet b).2, p.2.length ≤ 2048 := by
  unfold paGet
  split
  · simp
  · exact getGo_small _ _ _ _ (by omega) (by simp) (by simp)
/-- What is got of bytes, whether or not they are a packet's. -/
def gKd (bs : List Int) : Int := if pkGetE bs = 0 then bs[1]?.getD 0 else 0
def gF (bs : List Int) : List Int := if pkGetE bs = 0 then (bs.drop 8).take 16 else zer16
def gT (bs : List Int) : List Int := if pkGetE bs = 0 then (bs.drop 24).take 16 else zer16
def gPs (bs : List Int) : List Piece := if pkGetE bs = 0 then (paGet (bs.drop 40)).2 else []
theorem gPs_small (bs : List Int) : (gPs bs).length ≤ 16 ∧ ∀ p ∈ gPs bs, p.2.length ≤ 2048 := by
  unfold gPs
  split
  · exact paGet_small _
  · simp
theorem pkGetE_len {bs : List Int} (h : pkGetE bs = 0) : 40 ≤ bs.length := by
  unfold pkGetE at h
  split at h
  · cases h
  · split at h
    · cases h
    · omega
theorem gF_len (bs : List Int) : (gF bs).length = 16 := by
  unfold gF
  split
  · have := pkGetE_len (by assumption); simp; omega
  · rfl
theorem gT_len (bs : List Int) : (gT bs).length = 16 := by
  unfold gT
  split
  · have := pkGetE_len (by assumption); simp; omega
  · rfl
theorem psOwn_nil (base : Nat) (w : World) : PsOwn base w (.slice none 0 0) [] [] :=
  ⟨RowG.of_own (own_nil _ _ _ _), fun j t body hj => by simp at hj, fun i j g n c n' c' _ h => by simp at h⟩
def PkGotU (w : World) (bs : List Int) (e : Ending) (w' : World) : Prop :=
  ∃ A c cells, e = .returned (.tuple #[.agg (pktC (gKd bs) (gF bs) (gT bs) (.slice A (gPs bs).length c)).toArray, .int .i64 (pkGetE bs)]) ∧ PsOwn w.heap.size w' (.slice A (gPs bs).length c) (gPs bs) cells ∧ Ps w' A (gPs bs).length (gPs bs) ∧ Below w.heap.size w w'
def RPkGotU (w : World) (bs : List Int) (e : Ending) (w' : World) : Prop :=
  ∃ A c, e = .returned (.tuple #[.agg (pktC (gKd bs) (gF bs) (gT bs) (.slice A (gPs bs).length c)).toArray, .int .i64 (pkGetE bs)]) ∧ Ps w' A (gPs bs).length (gPs bs) ∧ Below w.heap.size w w'
theorem pkget_u (A0 : Option Addr) (n0 c0 : Nat) (bs : List Int) (w : World) (r0 : Rd w .u8 A0 n0 bs) (l0 : n0 ≤ c0) (hz0 : A0 = none → c0 = 0) : Calls Tryz.prog 16 #[.slice A0 n0 c0] w (PkGotU w bs) :=
  (pkget_any A0 n0 c0 bs w r0 l0 hz0).mono fun e w' h => by
    rcases h with ⟨h1, rfl, h2⟩ | ⟨A, n, h1, h2, rfl, h3, h4, h5⟩
    · refine ⟨none, 0, [], ?_, ?_, ?_, h2⟩
      · simp [gKd, gF, gT, gPs, h1, zPkt]
      · simp only [gPs, if_neg h1]; exact psOwn_nil _ _
      · simp only [gPs, if_neg h1]; exact ps_nil _
    · obtain ⟨cells, ho⟩ := h3.own
      refine ⟨A, n, cells, ?_, ?_, ?_, h5⟩
      · simp [gKd, gF, gT, gPs, h1, h2]
      · simp only [gPs, if_pos h1, h2]; exact ho
      · simp only [gPs, if_pos h1, h2]; exact h3.ps
theorem refpkget_u (A0 : Option Addr) (n0 c0 : Nat) (bs : List Int) (w : World) (r0 : Rd w .u8 A0 n0 bs) (l0 : n0 ≤ c0) (hz0 : A0 = none → c0 = 0) : Calls Tryz.prog 17 #[.slice A0 n0 c0] w (RPkGotU w bs) :=
  (refpkget_any A0 n0 c0 bs w r0 l0 hz0).mono fun e w' h => by
    rcases h with ⟨h1, rfl, h2⟩ | ⟨A, n, c, h1, h2, rfl, h3, h5⟩
    · refine ⟨none, 0, ?_, ?_, h2⟩
      · simp [gKd, gF, gT, gPs, h1, zPkt]
      · simp only [gPs, if_neg h1]; exact ps_nil _
    · refine ⟨A, c, ?_, ?_, h5⟩
      · simp [gKd, gF, gT, gPs, h1, h2]
      · simp only [gPs, if_pos h1, h2]; exact h3

/-- A packet that was got, put into a variable of its own. -/
theorem pkt_var {w w1 w2 : World} {Z X : List Value} (hZ : zPkt = Z) (hX : X.length = 34) (h1 : w.alloc (.cells Z.toArray 27) = w1) (h2 : w1.setCells w.heap.size 0 X = w2) :
    (∀ (o : Oper), o.op = .alloc 27 → ∀ ev, (execOp ev o).run Tryz.prog w = .ok (.value (.pointer (some ⟨w.heap.size, 0, none⟩))) w1) ∧ w1.there w.heap.size 0 X.toArray.size ∧ (Tryz.prog.info? 27).map (·.size) = some X.toArray.size ∧ (Tryz.prog.info? 27).map (·.size) = some X.length ∧ Blk w2 w.heap.size 27 X ∧ Below w.heap.size w w2 := by
  have hZl : Z.length = 34 := by rw [← hZ]; exact pktC_length rfl rfl
  have hk1 : Blk w1 w.heap.size 27 Z := by rw [← h1]; exact Blk.new w 27 Z
  refine ⟨fun o ho ev => by rw [← h1, ← hZ]; exact exec_alloc_pkt w o ho ev, hk1.there 0 _ (by rw [List.size_toArray, hX, hZl]; exact Nat.le_refl _), by rw [List.size_toArray, hX]; exact info_pkt, by rw [hX]; exact info_pkt, by rw [← h2]; exact hk1.whole X (by rw [hX, hZl]), ?_⟩
  rw [← h2, ← h1]
  exact below_keeps ((Below.refl _ w).alloc (Nat.le_refl _) _) (Keeps.setCells X 0 _) (Nat.le_refl _) (fun i hi => by omega)

set_option maxRecDepth 100000 in
set_option maxHeartbeats 8000000 in
theorem pget_at (A0 : Option Addr) (n0 c0 : Nat) (bs : List Int) (w : World) (r0 : Rd w .u8 A0 n0 bs) (l0 : n0 ≤ c0) (z0 : A0 = none → c0 = 0) :
    Calls Tryz.prog 4 #[.slice A0 n0 c0] w fun e w' => e = .returned (.bool true) ∧ Below w.heap.size w w' := by
  by_cases hbig : 10000 < n0
  · have hb' : (10000 : Int) < (n0 : Int) := by omega
    go_enter Tryz.func4, Tryz.ntmps4
    go_wp2_with fail
    refine (lives_true w).mono ?_; rintro e w3 ⟨rfl, hB3⟩
    have HB3 := Lib.hid hB3
    clear hB3
    go_wp2_with fail
    go_ret
    exact ⟨rfl, HB3.out⟩
  · have hb' : ¬ (10000 : Int) < (n0 : Int) := by omega
    have hl := r0.len
    have hu : Tryz.prog.underlying 27 = some (.struct _) := Tryz.underlying27
    have HU := Lib.hid hu
    have HR0 := Lib.hid r0
    have HZ0 := Lib.hid z0
    have HTW := Lib.hid (twin2_any A0 n0 c0 bs w r0 l0 (by omega))
    have HL := Lib.hid hl
    clear r0 z0 hu
    go_enter Tryz.func4, Tryz.ntmps4
    go_wp2_with fail
    refine HTW.out.mono ?_; rintro e w1 ⟨g, cap, rfl, hcap, hcm, hg, hlt, ho, hB1⟩
    rw [hl] at hcap ho ⊢
    have hby : ∀ x ∈ bs ++ [77], 0 ≤ x ∧ x ≤ 255 := fun x hx => by
      rcases List.mem_append.1 hx with h | h
      · exact rd_bytes HR0.out x h
      · obtain rfl : x = 77 := by simpa using h
        omega
    have r77 : Rd w1 .u8 (some ⟨g, 0, none⟩) (n0 + 1) (bs ++ [77]) := rd_own ho hby (by omega)
    have rt : Rd w1 .u8 (some ⟨g, 0, none⟩) n0 bs := by
      have := r77.cut n0 (by omega)
      rwa [List.take_append_of_le_length (by omega), List.take_of_length_le (by omega)] at this
    have hT : RowG 5 1 w.heap.size w1 (.slice (some ⟨g, 0, none⟩) n0 cap) n0 (bs.map (Value.int .u8)) := by
      have := own_take ho (m := n0) (by omega)
      rw [← List.map_take, List.take_append_of_le_length (by omega), List.take_of_length_le (by omega)] at this
      exact RowG.of_own this
    have hpg : ∀ W, Below w1.heap.size w1 W → Calls Tryz.prog 16 #[.slice (some ⟨g, 0, none⟩) n0 cap] W (PkGotU W bs) := fun W hW => pkget_u _ n0 cap bs W (rt.below hW) (by omega) (fun e => by cases e)
    have hrg : ∀ W, Below w1.heap.size w1 W → Calls Tryz.prog 17 #[.slice A0 n0 c0] W (RPkGotU W bs) := fun W hW => refpkget_u A0 n0 c0 bs W (HR0.out.below (hB1.trans (hW.mono hB1.size))) l0 HZ0.out
    have hch : ∀ W, Below w1.heap.size w1 W → Calls Tryz.prog 19 #[.slice (some ⟨g, 0, none⟩) n0 cap] W fun e w' => e = .returned (.int .u16 (chk bs)) ∧ W = w' := fun W hW => check_any _ n0 cap bs W (rt.below hW) (by omega)
    have hrch : ∀ W, Below w1.heap.size w1 W → Calls Tryz.prog 20 #[.slice A0 n0 c0] W fun e w' => e = .returned (.int .u16 (chk bs)) ∧ W = w' := fun W hW => refcheck_any A0 n0 c0 bs W (HR0.out.below (hB1.trans (hW.mono hB1.size))) (by omega)
    have hleft : ∀ W, Below w1.heap.size w1 W → Calls Tryz.prog 21 #[.slice (some ⟨g, 0, none⟩) n0 cap, .slice A0 n0 c0] W fun e W' => e = .returned (.bool true) ∧ Drawn W W' := fun W hW => left_any g n0 cap bs A0 c0 W hcap hcm (r77.below hW) (HR0.out.below (hB1.trans (hW.mono hB1.size)))
    obtain ⟨hsm1, hsm2⟩ := gPs_small bs
    have hFl := gF_len bs
    have hTl := gT_len bs
    unfold PkGotU at hpg
    unfold RPkGotU at hrg
    generalize gKd bs = kd at hpg hrg
    generalize gF bs = F at hpg hrg hFl
    generalize gT bs = T at hpg hrg hTl
    generalize gPs bs = ps at hpg hrg hsm1 hsm2
    generalize pkGetE bs = E at hpg hrg
    generalize chk bs = q at hch hrch
    have HPG := Lib.hid hpg
    have HRG := Lib.hid hrg
    have HCH := Lib.hid hch
    have HRCH := Lib.hid hrch
    have HLEFT := Lib.hid hleft
    have HTR := Lib.hid hT
    have HB1 := Lib.hid hB1
    have HFL := Lib.hid hFl
    have HTL := Lib.hid hTl
    have HSM2 := Lib.hid hsm2
    clear hpg hrg hch hrch hleft hT hB1 hFl hTl hsm2 hcap hcm hby r77 rt ho hg HTW
    go_wp2_with fail
    refine (HPG.out w1 (Below.refl _ _)).mono ?_; rintro e w2 ⟨A, c, cells, rfl, ho2, hps2, hB2⟩
    obtain ⟨Y, hY⟩ : ∃ Y, pktC kd F T (.slice A ps.length c) = Y := ⟨_, rfl⟩
    rw [hY]
    have hYl : Y.length = 34 := by rw [← hY]; exact pktC_length HFL.out HTL.out
    have hY1 : Y.toArray.all (·.oneCell') = true := by rw [← hY]; exact all_oneCell_toArray pktC_one
    obtain ⟨Z, hZ⟩ : ∃ Z, zPkt = Z := ⟨_, rfl⟩
    obtain ⟨w3, hw3⟩ : ∃ w3, w2.alloc (.cells Z.toArray 27) = w3 := ⟨_, rfl⟩
    obtain ⟨w4, hw4⟩ : ∃ w4, w3.setCells w2.heap.size 0 Y = w4 := ⟨_, rfl⟩
    obtain ⟨hal, hth, hsY2, hsY, hk4, hB24⟩ := pkt_var hZ hYl hw3 hw4
    have HAL := Lib.hid hal
    have HTH := Lib.hid hth
    have HSY2 := Lib.hid hsY2
    have HSY := Lib.hid hsY
    have HK4 := Lib.hid hk4
    have HB24 := Lib.hid hB24
    have HB2 := Lib.hid hB2
    have HO2 := Lib.hid ho2
    have HPS2 := Lib.hid hps2
    have HY := Lib.hid hY
    have HY1 := Lib.hid hY1
    have HZ := Lib.hid hZ
    have HW4 := Lib.hid hw4
    have HB14 : Hid (Below w1.heap.size w1 w4) := Lib.hid (hB2.trans (hB24.mono hB2.size))
    obtain ⟨P3, hP3⟩ : ∃ P3, w2.heap.size = P3 := ⟨_, rfl⟩
    rw [hP3] at HAL HTH HK4 HW4
    have HP3 := Lib.hid hP3
    clear hal hth hsY2 hsY hk4 hB24 hB2 ho2 hps2 hY hYl hY1 hZ hw3 hw4 hP3
    go_wp2_with (first
      | (refine wpList_value (o := ⟨some 4, .alloc 27, _, _, _, _⟩) (v := .pointer (some ⟨P3, 0, none⟩)) (w' := w3) rfl (HAL.out _ rfl _) ?_)
      | (refine wpList_store_mid rfl 27 _ _ rfl P3 0 Y.toArray rfl rfl HTH.out HSY2.out HY1.out ?_; rw [show Y.toArray.toList = Y from rfl, HW4.out]))
    refine (HRG.out w4 HB14.out).mono ?_; rintro e w5 ⟨A', c', rfl, hps5, hB5⟩
    obtain ⟨X, hX⟩ : ∃ X, pktC kd F T (.slice A' ps.length c') = X := ⟨_, rfl⟩
    rw [hX]
    have hXl : X.length = 34 := by rw [← hX]; exact pktC_length HFL.out HTL.out
    have hX1 : X.toArray.all (·.oneCell') = true := by rw [← hX]; exact all_oneCell_toArray pktC_one
    obtain ⟨w6, hw6⟩ : ∃ w6, w5.alloc (.cells Z.toArray 27) = w6 := ⟨_, rfl⟩
    obtain ⟨w7, hw7⟩ : ∃ w7, w6.setCells w5.heap.size 0 X = w7 := ⟨_, rfl⟩
    obtain ⟨hal, hth, hsX2, hsX, hk7, hB57⟩ := pkt_var HZ.out hXl hw6 hw7
    have hbk := book_new (base := w7.heap.size) w7 (Nat.le_refl _)
    have hB8 := new_belowB w7 (.cells zBook.toArray 51)
    obtain ⟨w8, hw8⟩ : ∃ w8, w7.alloc (.cells zBook.toArray 51) = w8 := ⟨_, rfl⟩
    rw [hw8] at hbk hB8
    have hB17 : Below w1.heap.size w1 w7 := HB14.out.trans ((hB5.trans (hB57.mono hB5.size)).mono HB14.out.size)
    have hB47 : Below w4.heap.size w4 w7 := hB5.trans (hB57.mono hB5.size)
    have HB27 : Hid (Below w2.heap.size w2 w7) := Lib.hid (HB24.out.trans (hB47.mono HB24.out.size))
    have HAL6 := Lib.hid hal
    have HTH6 := Lib.hid hth
    have HSX2 := Lib.hid hsX2
    have HSX := Lib.hid hsX
    have HK7 := Lib.hid hk7
    have HX1 := Lib.hid hX1
    have HX := Lib.hid hX
    have HW7 := Lib.hid hw7
    have HB17 := Lib.hid hB17
    have HPS7 := Lib.hid (hps5.below hB57)
    have HO7 := Lib.hid (HO2.out.below HB27.out)
    have HP27 := Lib.hid (HPS2.out.below HB27.out)
    have HK47 := Lib.hid (HK4.out.below hB47 HK4.out.lt)
    have HB78 := Lib.hid hB8
    have HAL8 : Hid (∀ (o : Oper), o.op = .alloc 51 → ∀ ev, (execOp ev o).run Tryz.prog w7 = .ok (.value (.pointer (some ⟨w7.heap.size, 0, none⟩))) w8) := Lib.hid (fun o ho ev => by rw [← hw8]; exact exec_alloc_book w7 o ho ev)
    obtain ⟨BK, hBK⟩ : ∃ BK, w7.heap.size = BK := ⟨_, rfl⟩
    rw [hBK] at hbk HAL8
    have hS8 : BK ≤ w8.heap.size := by rw [← hBK]; exact hB8.size
    have hby := bytes_bk BK BK 0 noH (some ⟨g, 0, none⟩) n0 cap w8 hbk hS8 (by omega)
    have HBY := Lib.hid hby
    have HBKE := Lib.hid hBK
    obtain ⟨P6, hP6⟩ : ∃ P6, w5.heap.size = P6 := ⟨_, rfl⟩
    rw [hP6] at HAL6 HTH6 HK7 HW7
    have HS8 := Lib.hid hS8
    clear hal hth hsX2 hsX hk7 hB57 hbk hB8 hw8 hB17 hB47 hps5 hB5 hX hXl hX1 hw6 hw7 hBK hS8 hby hP6 HPG HRG HAL HTH HK4 HW4 HO2 HPS2
    go_wp2_with (first
      | (refine wpList_value (o := ⟨some 6, .alloc 27, _, _, _, _⟩) (v := .pointer (some ⟨P6, 0, none⟩)) (w' := w6) rfl (HAL6.out _ rfl _) ?_)
      | (refine wpList_store_mid rfl 27 _ _ rfl P6 0 X.toArray rfl rfl HTH6.out HSX2.out HX1.out ?_; rw [show X.toArray.toList = X from rfl, HW7.out])
      | (refine wpList_value (o := ⟨some 8, .alloc 51, _, _, _, _⟩) (v := .pointer (some ⟨BK, 0, none⟩)) (w' := w8) rfl (HAL8.out _ rfl _) ?_))
    refine HBY.out.mono ?_; rintro e w9 ⟨rfl, hbk9, hk9⟩
    have hB79 : Below BK w7 w9 := by
      have := HB78.out
      rw [HBKE.out] at this
      exact this.trans (hk9.to_below HS8.out (fun i hi => hi.lo (Nat.le_refl _) HS8.out))
    have hS9 : BK ≤ w9.heap.size := Nat.le_trans HS8.out hk9.size
    have hB79' : Below w7.heap.size w7 w9 := by rw [HBKE.out]; exact hB79
    obtain ⟨H9, hH9⟩ : ∃ H9, upd noH 1 (noH 1 ++ [⟨some ⟨g, 0, none⟩, n0, cap, none, 0, 0, 0 + 1⟩]) = H9 := ⟨_, rfl⟩
    rw [hH9] at hbk9
    have hH91 : H9 1 = [⟨some ⟨g, 0, none⟩, n0, cap, none, 0, 0, 0 + 1⟩] := by rw [← hH9, upd_same]; rfl
    have hH9n : ∀ k, k ≠ 1 → H9 k = [] := fun k h1 => by rw [← hH9, upd_ne _ _ h1]; rfl
    have hbp := bpacket_bk BK w1.heap.size BK (0 + 1) H9 kd F T A ps.length c ps cells w9 HFL.out HTL.out hbk9 hS9 (HO7.out.below hB79') rfl (by omega)
    rw [HY.out] at hbp
    have HBP := Lib.hid hbp
    have HK49 := Lib.hid (HK47.out.below hB79' HK47.out.lt)
    have HB79 := Lib.hid hB79
    have HS9 := Lib.hid hS9
    have HH91 := Lib.hid hH91
    have HH9N := Lib.hid hH9n
    clear hbk9 hk9 hB79 hS9 hB79' hH9 hH91 hH9n hbp HBY HAL6 HAL8 HTH6 HB78
    go_wp2_with (refine wpList_load_mid rfl 27 _ rfl P3 0 rfl Y _ HK49.out.range HU.out rfl HSY.out ?_)
    refine HBP.out.mono ?_; rintro e w10 ⟨rfl, hbk10, hk10⟩
    have hB710 : Below BK w7 w10 := HB79.out.trans (hk10.to_below HS9.out (fun i hi => by
      rcases hi with rfl | hi | hi
      · exact Nat.le_refl _
      · exact hi.lo HS9.out
      · exact hi.lo HS9.out))
    have hB710' : Below w7.heap.size w7 w10 := by rw [HBKE.out]; exact hB710
    obtain ⟨H10, hH10⟩ : ∃ H10, upd (upd H9 1 (H9 1 ++ bodyH cells (0 + 1) ps.length)) 10 (H9 10 ++ [⟨A, ps.length, c, none, 0, 0, 0 + 1 + ps.length + 1⟩]) = H10 := ⟨_, rfl⟩
    rw [hH10] at hbk10
    have HA1 : Hid (H10 1 = [⟨some ⟨g, 0, none⟩, n0, cap, none, 0, 0, 0 + 1⟩] ++ bodyH cells (0 + 1) ps.length) := Lib.hid (by rw [← hH10, upd_ne _ _ (by omega), upd_same, HH91.out])
    have HA10 : Hid (H10 10 = [⟨A, ps.length, c, none, 0, 0, 0 + 1 + ps.length + 1⟩]) := Lib.hid (by rw [← hH10, upd_same, HH9N.out 10 (by omega)]; rfl)
    have HAN : Hid (∀ k, k ≠ 1 → k ≠ 10 → H10 k = []) := Lib.hid (fun k h1 h2 => by rw [← hH10, upd_ne _ _ h2, upd_ne _ _ h1]; exact HH9N.out k h1)
    have hsame := samepk_any kd F T ps A A' ps.length c ps.length c' w10 (HP27.out.below hB710') (HPS7.out.below hB710') HFL.out HTL.out
    rw [HY.out, HX.out] at hsame
    have HSAME := Lib.hid hsame
    have HK410 := Lib.hid (HK47.out.below hB710' HK47.out.lt)
    have HK710 := Lib.hid (HK7.out.below hB710' HK7.out.lt)
    have HB710 := Lib.hid hB710'
    have HBK10 := Lib.hid hbk10
    have hEE : (E == E) = true := by simp
    clear hbk10 hk10 hB710 hB710' hH10 hsame HBP HH91 HH9N HK49
    go_wp2_with (first
      | (refine wpList_load_want (by rfl) 27 _ rfl P3 0 rfl Y _ HK410.out.range HU.out rfl HSY.out ?_)
      | (refine wpList_load_want (by rfl) 27 _ rfl P6 0 rfl X _ HK710.out.range HU.out rfl HSX.out ?_))
    refine HSAME.out.mono ?_; rintro e w11 ⟨rfl, hB11⟩
    have hB711 : Below w7.heap.size w7 w11 := HB710.out.trans (hB11.mono HB710.out.size)
    have hB111 : Below w1.heap.size w1 w11 := HB17.out.trans (hB711.mono HB17.out.size)
    have HBK11 := Lib.hid (HBK10.out.below hB11)
    have HB711 := Lib.hid hB711
    have HB111 := Lib.hid hB111
    have hqq : (q == q) = true := by simp
    clear hB11 hB711 hB111
    go_wp2_with fail
    refine (HCH.out w11 HB111.out).mono ?_; rintro e w12 ⟨rfl, rfl⟩
    go_wp2_with fail
    refine (HRCH.out w11 HB111.out).mono ?_; rintro e w12 ⟨rfl, rfl⟩
    go_wp2_with fail
    refine (HLEFT.out w11 HB111.out).mono ?_; rintro e w12 ⟨rfl, hD12⟩
    have hB712 : Below w7.heap.size w7 w12 := below_drawn HB711.out hD12
    have hB112 : Below w1.heap.size w1 w12 := below_drawn HB111.out hD12
    have hbw12 : Below w.heap.size w w12 := HB1.out.trans (hB112.mono HB1.out.size)
    have hS7 : w.heap.size ≤ BK := by have h1 := HB1.out.size; have h2 := HB17.out.size; have h3 := HBKE.out; omega
    have hbk12 : BookAt w.heap.size w12 BK (0 + 1 + ps.length + 1) H10 := (HBK11.out.below (below_drawn (Below.refl _ _) hD12)).lower hS7
    have ho12 : PsOwn w.heap.size w12 (.slice A ps.length c) ps cells := (HO7.out.below hB712).lower HB1.out.size
    have hra12 : RowG 5 1 w.heap.size w12 (.slice (some ⟨g, 0, none⟩) n0 cap) n0 (bs.map (Value.int .u8)) := HTR.out.below hB112
    have ho7 := HO7.out
    have hsm := HSM2.out
    have hfb : Fine (H10 1) := by
      rw [HA1.out]
      refine fine_append (fine_one ⟨by simp only; omega, by simp only; omega⟩ (by simp only; omega)) (fine_bodies ho12 rfl (by omega) (fun p hp => by have := hsm p hp; omega)) (fun a ha b hb k hk1 hk2 => ?_)
      simp only [List.mem_cons, List.not_mem_nil, or_false] at ha
      subst ha
      obtain ⟨i, hi, rfl⟩ := List.getElem_of_mem hb
      obtain ⟨_, _, _, _, _, _, hr5⟩ := body_row ho7 rfl (List.getElem?_eq_getElem hi)
      have h1 := (RowG.ty hr5 hk2).1
      have h2 := (HTR.out.ty hk1).2.1
      omega
    have hkb : KHolds kByte w.heap.size w12 H10 H10 0 := KHolds.of_mem (K := kByte) (fun h hh => by
      have hh' : h ∈ H10 1 := hh
      rw [HA1.out, List.mem_append] at hh'
      rcases hh' with hh' | hh'
      · simp only [List.mem_cons, List.not_mem_nil, or_false] at hh'
        subst hh'
        exact ⟨_, hra12⟩
      · exact body_rows ho12 rfl h hh') hfb
    have hks : KHolds kSpot w.heap.size w12 H10 H10 0 := KHolds.of_mem (K := kSpot) (fun h hh => by
      have hh' : h ∈ H10 7 := hh
      rw [HAN.out 7 (by omega) (by omega)] at hh'
      simp at hh') (by show Fine (H10 7); rw [HAN.out 7 (by omega) (by omega)]; exact fine_nil)
    have hkp : KHolds kParam w.heap.size w12 H10 H10 0 := KHolds.of_mem (K := kParam) (fun h hh => by
      have hh' : h ∈ H10 10 := hh
      rw [HA10.out] at hh'
      simp only [List.mem_cons, List.not_mem_nil, or_false] at hh'
      subst hh'
      exact ⟨_, ho12.row⟩) (by show Fine (H10 10); rw [HA10.out]; exact fine_one ⟨by simp only; omega, by simp only; omega⟩ (by simp only; omega))
    have hap := apart_bk w.heap.size BK _ H10 w12 hbk12 (fun k h1 h7 h10 => HAN.out k h1 h10) hkb hks hkp hbw12.size
    have HAP := Lib.hid hap
    have HBW12 := Lib.hid hbw12
    clear hap hbw12 hkp hks hkb hfb hra12 ho12 ho7 hsm hbk12 hB712 hB112 hD12
    go_wp2_with fail
    refine HAP.out.mono ?_; rintro e w13 ⟨rfl, hk13⟩
    have HB13 : Hid (Below w.heap.size w w13) := Lib.hid (below_keeps HBW12.out hk13 (Nat.le_refl _) (fun i hi => hi))
    clear hk13
    go_wp2_with fail
    refine (lives_true w13).mono ?_; rintro e w14 ⟨rfl, hB14⟩
    have HB14 := Lib.hid (HB13.out.trans (hB14.mono HB13.out.size))
    clear hB14
    go_wp2_with fail
    go_ret
    exact ⟨rfl, HB14.out⟩
theorem packetsGet_walk (A0 : Option Addr) (n0 c0 : Nat) (bs : List Int) (w : World) (r0 : Rd w .u8 A0 n0 bs) (l0 : n0 ≤ c0) (z0 : A0 = none → c0 = 0) (m0 : c0 ≤ 140737488351232) (q0 : 0 < c0 → ∃ b off, A0 = some ⟨b, off, none⟩) :
    Calls Tryz.prog 4 #[.slice A0 n0 c0] w fun e w' => e = .returned (.bool true) ∧ Below w.heap.size w w' := pget_at A0 n0 c0 bs w r0 l0 z0
end Go.Proofs.YtjikjdignhdipaaGreatDoor
