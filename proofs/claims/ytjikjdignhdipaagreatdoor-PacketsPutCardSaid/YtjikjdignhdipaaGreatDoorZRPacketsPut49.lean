/- The walk over the law PacketsPut. -/
import Derived.Test.YtjikjdignhdipaaGreatDoorZRPacketsPut31
import Derived.Test.YtjikjdignhdipaaGreatDoorZRPacketsPut32
import Derived.Test.YtjikjdignhdipaaGreatDoorZRPacketsPut37
import Derived.Test.YtjikjdignhdipaaGreatDoorZRPacketsPut46
import Derived.Test.YtjikjdignhdipaaGreatDoorZRPacketsPut48
namespace Go.Proofs.YtjikjdignhdipaaGreatDoor
open Go.RowKit
set_option linter.unusedSimpArgs false
set_option linter.unusedVariables false

/-- The bytes of a packet that may be, else none. -/
def pkBytes (kind : Int) (f t : List Int) (ps : List Piece) : List Int := if pkE kind ps = 0 then pkB kind f t (pieces ps) else []
def PkU (w : World) (kind : Int) (f t : List Int) (ps : List Piece) (e : Ending) (w' : World) : Prop :=
  ∃ A c, e = .returned (.tuple #[.slice A (pkBytes kind f t ps).length c, .int .i64 (pkE kind ps)]) ∧ RowG 5 1 w.heap.size w' (.slice A (pkBytes kind f t ps).length c) (pkBytes kind f t ps).length ((pkBytes kind f t ps).map (Value.int .u8)) ∧ Below w.heap.size w w'
def RPkU (w : World) (kind : Int) (f t : List Int) (ps : List Piece) (e : Ending) (w' : World) : Prop :=
  ∃ A c, e = .returned (.tuple #[.slice A (pkBytes kind f t ps).length c, .int .i64 (pkE kind ps)]) ∧ Rd w' .u8 A (pkBytes kind f t ps).length (pkBytes kind f t ps) ∧ Below w.heap.size w w'
theorem pkput_u (kind : Int) (f t : List Int) (ps : List Piece) (A : Option Addr) (n c : Nat) (w : World) (hps : Ps w A n ps) (hf : f.length = 16) (ht : t.length = 16) (hfb : isB f) (htb : isB t) (hk : 0 ≤ kind ∧ kind ≤ 255) :
    Calls Tryz.prog 8 #[.agg (pktC kind f t (.slice A n c)).toArray] w (PkU w kind f t ps) :=
  (pkput_own kind f t ps A n c w hps hf ht hfb htb hk).mono fun e w' h => by
    rcases h with ⟨h1, rfl, h2⟩ | ⟨g, L, h1, h2, rfl, _, _, h5, h6⟩
    · refine ⟨none, 0, ?_, ?_, h2⟩
      · simp [pkBytes, h1]
      · simp only [pkBytes, if_neg h1, List.length_nil, List.map_nil]
        exact RowG.of_own (own_nil _ _ _ _)
    · refine ⟨some ⟨g, 0, none⟩, L, ?_, ?_, h6⟩
      · simp [pkBytes, h1, h2]
      · simp only [pkBytes, if_pos h1, h2]
        exact h5
theorem refpkput_u (kind : Int) (f t : List Int) (ps : List Piece) (A : Option Addr) (n c : Nat) (w : World) (hps : Ps w A n ps) (hf : f.length = 16) (ht : t.length = 16) (hfb : isB f) (htb : isB t) (hk : 0 ≤ kind ∧ kind ≤ 255) :
    Calls Tryz.prog 9 #[.agg (pktC kind f t (.slice A n c)).toArray] w (RPkU w kind f t ps) :=
  (refpkput_any kind f t ps A n c w hps hf ht hfb htb hk).mono fun e w' h => by
    rcases h with ⟨h1, rfl, h2⟩ | ⟨A, L, c, h1, h2, rfl, h5, h6⟩
    · refine ⟨none, 0, ?_, ?_, h2⟩
      · simp [pkBytes, h1]
      · simp only [pkBytes, if_neg h1, List.length_nil]
        exact rd_nil w' .u8
    · refine ⟨A, c, ?_, ?_, h6⟩
      · simp [pkBytes, h1, h2]
      · simp only [pkBytes, if_pos h1, h2]
        exact h5
theorem pkBytes_byte {kind : Int} {f t : List Int} {ps : List Piece} (hfb : isB f) (htb : isB t) (hok : ∀ p ∈ ps, okPiece p) : ∀ x ∈ pkBytes kind f t ps, 0 ≤ x ∧ x ≤ 255 := by
  unfold pkBytes
  by_cases h : pkE kind ps = 0
  · rw [if_pos h]
    have hm : 1 ≤ kind ∧ kind ≤ 8 := by
      unfold pkE at h
      split at h
      · assumption
      · omega
    exact pkB_byte hm hfb htb (pieces_byte _ hok)
  · rw [if_neg h]; intro x hx; simp at hx
theorem bsmall (kind : Int) (f t : List Int) (ps : List Piece) (hf : f.length = 16) (ht : t.length = 16) : (pkBytes kind f t ps).length ≤ 2048 := by
  unfold pkBytes
  by_cases h : pkE kind ps = 0
  · rw [if_pos h, pkB_length hf ht]
    unfold pkE at h
    split at h
    · split at h
      · split at h
        · cases h
        · omega
      · contradiction
    · cases h
  · rw [if_neg h]; simp
theorem Rd.belowTo {w w' : World} {B : Nat} {k : IntKind} {A : Option Addr} {n : Nat} {xs : List Int} (h : Rd w k A n xs) (hB : Below w.heap.size w w') : Rd w' k A n xs := h.below hB

set_option maxRecDepth 100000 in
set_option maxHeartbeats 8000000 in
theorem pput_at (kind : Int) (f t : List Int) (ps : List Piece) (A : Option Addr) (n c : Nat) (w : World) (hps : Ps w A n ps) (hf : f.length = 16) (ht : t.length = 16) (hfb : isB f) (htb : isB t) (hk : 0 ≤ kind ∧ kind ≤ 255) (hsz : psSize ps ≤ 281474976710656) :
    Calls Tryz.prog 3 #[.agg (pktC kind f t (.slice A n c)).toArray] w fun e w' => e = .returned (.bool true) ∧ Below w.heap.size w w' := by
  obtain rfl : ps.length = n := hps.len
  obtain ⟨X, hX⟩ : ∃ X, pktC kind f t (.slice A ps.length c) = X := ⟨_, rfl⟩
  have hu : Tryz.prog.underlying 27 = some (.struct _) := Tryz.underlying27
  obtain ⟨w1, hw1⟩ : ∃ w1, w.alloc (.cells X.toArray 27) = w1 := ⟨_, rfl⟩
  have hk1 : Blk w1 w.heap.size 27 X := by rw [← hw1]; exact Blk.new w 27 X
  have hB1 : Below w.heap.size w w1 := by rw [← hw1]; exact (Below.refl _ _).alloc (Nat.le_refl _) _
  have hXl : X.length = 34 := by rw [← hX]; exact pktC_length hf ht
  have hsX : (Tryz.prog.info? 27).map (·.size) = some X.length := by rw [hXl]; exact info_pkt
  have hps1 := hps.below hB1
  have hsize := pksize_any kind f t ps A ps.length c w1 hps1 hf ht hsz
  rw [hX] at hsize ⊢
  have HU := Lib.hid hu
  have HSX := Lib.hid hsX
  have HK1 := Lib.hid hk1
  have HB1 := Lib.hid hB1
  have HPS1 := Lib.hid hps1
  have HSIZE := Lib.hid hsize
  have HXE := Lib.hid hX
  have HPZ : Hid (w.heap.size < w1.heap.size) := Lib.hid hk1.lt
  clear hu hsX hk1 hB1 hps1 hsize hps hX
  by_cases hbig : 10000 < pkSize ps
  · have hb' : (10000 : Int) < (pkSize ps : Int) := by omega
    go_enter Tryz.func3, Tryz.ntmps3
    go_wp2_with (first
      | (refine wpList_value (o := ⟨some 1, .box 27 _, _, _, _, _⟩) (v := .pointer (some ⟨w.heap.size, 0, none⟩)) (w' := w.alloc (.cells X.toArray 27)) rfl (by rfl) ?_; rw [hw1])
      | (refine wpList_load_mid rfl 27 _ rfl w.heap.size 0 rfl X _ HK1.out.range HU.out rfl HSX.out ?_))
    refine HSIZE.out.mono ?_; rintro e w2 ⟨rfl, hB2⟩
    have HB2 := Lib.hid (HB1.out.trans (hB2.mono HB1.out.size))
    clear hB2
    go_wp2_with fail
    refine (lives_true w2).mono ?_; rintro e w3 ⟨rfl, hB3⟩
    have HB3 := Lib.hid (HB2.out.trans (hB3.mono HB2.out.size))
    clear hB3
    go_wp2_with fail
    go_ret
    exact ⟨rfl, HB3.out⟩
  · have hb' : ¬ (10000 : Int) < (pkSize ps : Int) := by omega
    have hcnt : cntP ps.length ps ≤ 9999 := by unfold pkSize psSize at hbig; omega
    have hnl : ps.length ≤ 9999 := by have := cntP_mono ps ps.length; omega
    have hsmall : ∀ p ∈ ps, p.2.length ≤ 9999 := fun p hp => by have := cntP_small ps ps.length (by omega) p hp; omega
    have hok := ps_ok HPS1.out
    obtain ⟨bs, hbs⟩ : ∃ bs, pkBytes kind f t ps = bs := ⟨_, rfl⟩
    obtain ⟨E, hE⟩ : ∃ E, pkE kind ps = E := ⟨_, rfl⟩
    have hbsb : ∀ x ∈ bs, 0 ≤ x ∧ x ≤ 255 := by rw [← hbs]; exact pkBytes_byte hfb htb hok
    have htwin : ∀ W, Below w1.heap.size w1 W → Calls Tryz.prog 7 #[.agg X.toArray] W (TwinPk W kind f t ps ps.length) := fun W hW => by
      rw [← HXE.out]
      exact twinpk_any kind f t ps A ps.length c W (HPS1.out.below hW) hf ht (fun p hp => by have := hsmall p hp; omega) (by omega)
    have href : ∀ W, Below w1.heap.size w1 W → Calls Tryz.prog 9 #[.agg X.toArray] W fun e w' => ∃ A c, e = .returned (.tuple #[.slice A bs.length c, .int .i64 E]) ∧ Rd w' .u8 A bs.length bs ∧ Below W.heap.size W w' := fun W hW => by
      have := refpkput_u kind f t ps A ps.length c W (HPS1.out.below hW) hf ht hfb htb hk
      unfold RPkU at this
      rw [hbs, hE, HXE.out] at this
      exact this
    have HTWIN := Lib.hid htwin
    have HREF := Lib.hid href
    have HBSB := Lib.hid hbsb
    have HSMALL := Lib.hid hsmall
    have HOK := Lib.hid hok
    have HBS := Lib.hid hbs
    have HE := Lib.hid hE
    clear htwin href hbsb hsmall hok hbs hE hcnt
    go_enter Tryz.func3, Tryz.ntmps3
    go_wp2_with (first
      | (refine wpList_value (o := ⟨some 1, .box 27 _, _, _, _, _⟩) (v := .pointer (some ⟨w.heap.size, 0, none⟩)) (w' := w.alloc (.cells X.toArray 27)) rfl (by rfl) ?_; rw [hw1])
      | (refine wpList_load_mid rfl 27 _ rfl w.heap.size 0 rfl X _ HK1.out.range HU.out rfl HSX.out ?_))
    refine HSIZE.out.mono ?_; rintro e w2 ⟨rfl, hB2⟩
    have HB2 := Lib.hid hB2
    have HK2 := Lib.hid (HK1.out.below hB2 HK1.out.lt)
    clear hB2
    go_wp2_with (refine wpList_load_mid rfl 27 _ rfl w.heap.size 0 rfl X _ HK2.out.range HU.out rfl HSX.out ?_)
    refine (HTWIN.out w2 HB2.out).mono ?_; rintro e w3 ⟨B, cap, cells, rfl, htw, hB3⟩
    obtain ⟨Y, hY⟩ : ∃ Y, pktC kind f t (.slice B ps.length cap) = Y := ⟨_, rfl⟩
    rw [hY]
    have hown := htw.own
    have HOWNR := Lib.hid htw
    have hYl : Y.length = 34 := by rw [← hY]; exact pktC_length hf ht
    have hsY : (Tryz.prog.info? 27).map (·.size) = some Y.length := by rw [hYl]; exact info_pkt
    have hsY2 : (Tryz.prog.info? 27).map (·.size) = some Y.toArray.size := by rw [List.size_toArray]; exact hsY
    have hY1 : Y.toArray.all (·.oneCell') = true := by rw [← hY]; exact all_oneCell_toArray pktC_one
    obtain ⟨Z, hZ⟩ : ∃ Z, zPkt = Z := ⟨_, rfl⟩
    have hZl : Z.length = 34 := by rw [← hZ]; exact pktC_length rfl rfl
    obtain ⟨w4, hw4⟩ : ∃ w4, w3.alloc (.cells Z.toArray 27) = w4 := ⟨_, rfl⟩
    obtain ⟨w5, hw5⟩ : ∃ w5, w4.setCells w3.heap.size 0 Y = w5 := ⟨_, rfl⟩
    have hk4 : Blk w4 w3.heap.size 27 Z := by rw [← hw4]; exact Blk.new w3 27 Z
    have hk5 : Blk w5 w3.heap.size 27 Y := by rw [← hw5]; exact hk4.whole Y (by rw [hZl, hYl])
    have hB35 : Below w3.heap.size w3 w5 := by
      rw [← hw5, ← hw4]
      exact below_keeps ((Below.refl _ w3).alloc (Nat.le_refl _) _) (Keeps.setCells Y 0 _) (Nat.le_refl _) (fun i hi => by omega)
    have htw5 := htw.below hB35
    have hB15 : Below w1.heap.size w1 w5 := (HB2.out.trans (hB3.mono HB2.out.size)).trans (hB35.mono (HB2.out.trans (hB3.mono HB2.out.size)).size)
    have hps5 : Ps w5 B ps.length ps := htw5.own.asPs rfl (by omega) HOK.out (fun p hp => by have := HSMALL.out p hp; omega)
    have hput := pkput_u kind f t ps B ps.length cap w5 hps5 hf ht hfb htb hk
    unfold PkU at hput
    rw [HBS.out, HE.out, hY] at hput
    have HTW5 := Lib.hid htw5
    have HK5 := Lib.hid hk5
    have HK25 := Lib.hid ((HK2.out.below hB3 HK2.out.lt).below hB35 (HK2.out.below hB3 HK2.out.lt).lt)
    have HB15 := Lib.hid hB15
    have HPUT := Lib.hid hput
    have HSY := Lib.hid hsY
    have HSY2 := Lib.hid hsY2
    have HY1 := Lib.hid hY1
    have HY := Lib.hid hY
    have HTH4 : Hid (w4.there w3.heap.size 0 Y.toArray.size) := Lib.hid (hk4.there 0 _ (by rw [List.size_toArray, hYl, hZl]; omega))
    have HW5 := Lib.hid hw5
    have HAL : Hid (∀ (o : Oper), o.op = .alloc 27 → ∀ ev, (execOp ev o).run Tryz.prog w3 = .ok (.value (.pointer (some ⟨w3.heap.size, 0, none⟩))) w4) := Lib.hid (fun o ho ev => by rw [← hw4, ← hZ]; exact exec_alloc_pkt w3 o ho ev)
    have HB23 : Hid (w2.heap.size ≤ w3.heap.size) := Lib.hid hB3.size
    have HB12 : Hid (w1.heap.size ≤ w2.heap.size) := Lib.hid HB2.out.size
    have HZ35 : Hid (w3.heap.size ≤ w5.heap.size) := Lib.hid hB35.size
    generalize w3.heap.size = P3 at *
    clear hown htw hYl hsY hsY2 hY1 hZ hZl hw4 hw5 hk4 hk5 hB35 htw5 hB15 hps5 hput hY hB3 HOWNR
    go_wp2_with (first
      | (refine wpList_value (o := ⟨some 3, .alloc 27, _, _, _, _⟩) (v := .pointer (some ⟨P3, 0, none⟩)) (w' := w4) rfl (HAL.out _ rfl _) ?_)
      | (refine wpList_store_mid rfl 27 _ _ rfl P3 0 Y.toArray rfl rfl HTH4.out HSY2.out HY1.out ?_; rw [show Y.toArray.toList = Y from rfl, HW5.out])
      | (refine wpList_load_mid rfl 27 _ rfl P3 0 rfl Y _ HK5.out.range HU.out rfl HSY.out ?_))
    refine HPUT.out.mono ?_; rintro e w6 ⟨Aa, ca, rfl, hra, hB6⟩
    have HRA := Lib.hid hra
    have HB6 := Lib.hid hB6
    have HK6 := Lib.hid (HK25.out.below hB6 HK25.out.lt)
    have HB16 := Lib.hid (HB15.out.trans (hB6.mono HB15.out.size))
    clear hra hB6
    go_wp2_with (refine wpList_load_mid rfl 27 _ rfl w.heap.size 0 rfl X _ HK6.out.range HU.out rfl HSX.out ?_)
    refine (HREF.out w6 HB16.out).mono ?_; rintro e w7 ⟨Ar, cr, rfl, hrr, hB7⟩
    have HB17 := Lib.hid (HB16.out.trans (hB7.mono HB16.out.size))
    have HB57 : Hid (Below w5.heap.size w5 w7) := Lib.hid (HB6.out.trans (hB7.mono HB6.out.size))
    have HRA7 := Lib.hid (HRA.out.below hB7)
    have HRR7 := Lib.hid hrr
    have hbk := book_new (base := w7.heap.size) w7 (Nat.le_refl _)
    have hB8 := new_belowB w7 (.cells zBook.toArray 51)
    obtain ⟨w8, hw8⟩ : ∃ w8, w7.alloc (.cells zBook.toArray 51) = w8 := ⟨_, rfl⟩
    rw [hw8] at hbk hB8
    have HBK := Lib.hid hbk
    have HB78 : Hid (Below w7.heap.size w7 w8) := Lib.hid hB8
    have HK57 := Lib.hid (HK5.out.below HB57.out HK5.out.lt)
    have HK17 := Lib.hid (HK1.out.below HB17.out HK1.out.lt)
    have HTW7 := Lib.hid (HTW5.out.below HB57.out)
    have HB58 : Hid (Below w5.heap.size w5 w8) := Lib.hid (HB57.out.trans (hB8.mono HB57.out.size))
    have HB18 : Hid (Below w1.heap.size w1 w8) := Lib.hid (HB17.out.trans (hB8.mono HB17.out.size))
    have HTW8 := Lib.hid (HTW5.out.below HB58.out)
    have HK58 := Lib.hid (HK5.out.below HB58.out HK5.out.lt)
    have HK18 := Lib.hid (HK1.out.below HB18.out HK1.out.lt)
    have HAL8 : Hid (∀ (o : Oper), o.op = .alloc 51 → ∀ ev, (execOp ev o).run Tryz.prog w7 = .ok (.value (.pointer (some ⟨w7.heap.size, 0, none⟩))) w8) := Lib.hid (fun o ho ev => by rw [← hw8]; exact exec_alloc_book w7 o ho ev)
    have HP7 : Hid (w5.heap.size ≤ w7.heap.size) := Lib.hid HB57.out.size
    have HS8 : Hid (w7.heap.size ≤ w8.heap.size) := Lib.hid hB8.size
    have HS7 : Hid (w.heap.size ≤ w7.heap.size) := Lib.hid (Nat.le_trans HB1.out.size HB17.out.size)
    obtain ⟨BK, hBK⟩ : ∃ BK, w7.heap.size = BK := ⟨_, rfl⟩
    rw [hBK] at HBK HB78 HAL8 HP7 HS8 HS7
    have HBKE := Lib.hid hBK
    clear hrr hB7 hbk hB8 hw8 HRA HB6 HB16 HPUT HREF HTWIN hBK
    go_wp2_with (first
      | (refine wpList_value (o := ⟨some 8, .alloc 51, _, _, _, _⟩) (v := .pointer (some ⟨BK, 0, none⟩)) (w' := w8) rfl (HAL8.out _ rfl _) ?_)
      | (refine wpList_load_mid rfl 27 _ rfl P3 0 rfl Y _ HK58.out.range HU.out rfl HSY.out ?_))
    have hbp := bpacket_bk BK w2.heap.size BK 0 noH kind f t B ps.length cap ps cells w8 hf ht HBK.out HS8.out HTW8.out.own rfl (by omega)
    rw [HY.out] at hbp
    refine hbp.mono ?_; rintro e w9 ⟨rfl, hbk9, hk9⟩
    have hB79 : Below BK w7 w9 := HB78.out.trans (hk9.to_below HS8.out (fun i hi => by
      rcases hi with rfl | hi | hi
      · exact Nat.le_refl _
      · exact hi.lo HS8.out
      · exact hi.lo HS8.out))
    have hS9 : BK ≤ w9.heap.size := Nat.le_trans HS8.out hk9.size
    obtain ⟨H9, hH9⟩ : ∃ H9, upd (upd noH 1 (noH 1 ++ bodyH cells 0 ps.length)) 10 (noH 10 ++ [⟨B, ps.length, cap, none, 0, 0, 0 + ps.length + 1⟩]) = H9 := ⟨_, rfl⟩
    rw [hH9] at hbk9
    have hH91 : H9 1 = bodyH cells 0 ps.length := by rw [← hH9, upd_ne _ _ (by omega), upd_same]; rfl
    have hH910 : H9 10 = [⟨B, ps.length, cap, none, 0, 0, 0 + ps.length + 1⟩] := by rw [← hH9, upd_same]; rfl
    have hH9n : ∀ k, k ≠ 1 → k ≠ 10 → H9 k = [] := fun k h1 h2 => by rw [← hH9, upd_ne _ _ h2, upd_ne _ _ h1]; rfl
    have hby := bytes_bk BK BK (0 + ps.length + 1) H9 Aa bs.length ca w9 hbk9 hS9 (by omega)
    have HBY := Lib.hid hby
    have HB79 := Lib.hid hB79
    have HS9 := Lib.hid hS9
    have HH91 := Lib.hid hH91
    have HH910 := Lib.hid hH910
    have HH9N := Lib.hid hH9n
    clear hbp hbk9 hk9 hB79 hS9 hH9 hH91 hH910 hH9n hby HBK HTW8 HK58 HK18 HAL8
    go_wp2_with fail
    refine HBY.out.mono ?_; rintro e w10 ⟨rfl, hbk10, hk10⟩
    have hB710 : Below BK w7 w10 := HB79.out.trans (hk10.to_below HS9.out (fun i hi => hi.lo (Nat.le_refl _) HS9.out))
    obtain ⟨H10, hH10⟩ : ∃ H10, upd H9 1 (H9 1 ++ [⟨Aa, bs.length, ca, none, 0, 0, 0 + ps.length + 1 + 1⟩]) = H10 := ⟨_, rfl⟩
    rw [hH10] at hbk10
    have HA1 : Hid (H10 1 = bodyH cells 0 ps.length ++ [⟨Aa, bs.length, ca, none, 0, 0, 0 + ps.length + 1 + 1⟩]) := Lib.hid (by rw [← hH10, upd_same, HH91.out])
    have HA10 : Hid (H10 10 = [⟨B, ps.length, cap, none, 0, 0, 0 + ps.length + 1⟩]) := Lib.hid (by rw [← hH10, upd_ne _ _ (by omega), HH910.out])
    have HAN : Hid (∀ k, k ≠ 1 → k ≠ 10 → H10 k = []) := Lib.hid (fun k h1 h2 => by rw [← hH10, upd_ne _ _ h1]; exact HH9N.out k h1 h2)
    have HB710 : Hid (Below w7.heap.size w7 w10) := Lib.hid (by rw [HBKE.out]; exact hB710)
    have hsame := same_any Aa bs.length ca bs Ar bs.length cr bs w10 ((HRA7.out.below HB710.out).rd HBSB.out (by have := HRR7.out.big; omega)) (HRR7.out.below HB710.out)
    rw [decide_eq_true rfl] at hsame
    have HSAME := Lib.hid hsame
    have HBK10 := Lib.hid hbk10
    have HK510 := Lib.hid (HK57.out.below HB710.out HK57.out.lt)
    have HK110 := Lib.hid (HK17.out.below HB710.out HK17.out.lt)
    clear hbk10 hk10 hB710 hH10 hsame HBY HH91 HH910 HH9N
    go_wp2_with fail
    refine HSAME.out.mono ?_; rintro e w11 ⟨rfl, hD11⟩
    have hB711 : Below w7.heap.size w7 w11 := below_drawn HB710.out hD11
    have hleft := leftpk_any w2.heap.size kind f t ps B A ps.length cap c cells w11 (HTW7.out.below hB711) (HPS1.out.below (HB17.out.trans (hB711.mono HB17.out.size))) HOK.out (fun p hp => by have := HSMALL.out p hp; omega) hf ht
    rw [HY.out, HXE.out] at hleft
    have HLEFT := Lib.hid hleft
    have HB711 := Lib.hid hB711
    have HK511 : Hid (Blk w11 P3 27 Y) := Lib.hid (by obtain ⟨q, rfl⟩ := hD11; exact HK510.out.drewN q)
    have HK111 : Hid (Blk w11 w.heap.size 27 X) := Lib.hid (by obtain ⟨q, rfl⟩ := hD11; exact HK110.out.drewN q)
    have HBK11 := Lib.hid (HBK10.out.below (below_drawn (Below.refl _ _) hD11))
    clear hleft hB711 hD11
    go_wp2_with (first
      | (refine wpList_load_want (by rfl) 27 _ rfl P3 0 rfl Y _ HK511.out.range HU.out rfl HSY.out ?_)
      | (refine wpList_load_want (by rfl) 27 _ rfl w.heap.size 0 rfl X _ HK111.out.range HU.out rfl HSX.out ?_))
    refine HLEFT.out.mono ?_; rintro e w12 ⟨rfl, hB12⟩
    have hB712 : Below w7.heap.size w7 w12 := HB711.out.trans (hB12.mono HB711.out.size)
    have hbk12 : BookAt w.heap.size w12 BK (0 + ps.length + 1 + 1) H10 := (HBK11.out.below hB12).lower HS7.out
    have ho5 := HTW5.out.own
    have hlo2 : w.heap.size ≤ w2.heap.size := Nat.le_trans HB1.out.size HB12.out
    have ho12 : PsOwn w.heap.size w12 (.slice B ps.length cap) ps cells := ((HTW7.out.below hB712).own).lower hlo2
    have hra12 : RowG 5 1 w.heap.size w12 (.slice Aa bs.length ca) bs.length (bs.map (Value.int .u8)) := (HRA7.out.below hB712).lower (Nat.le_trans HB1.out.size HB15.out.size)
    have hfb : Fine (H10 1) := by
      rw [HA1.out]
      refine fine_append (fine_bodies ho12 rfl (by omega) (fun p hp => by have := HSMALL.out p hp; omega)) (fine_one ⟨by simp only; omega, by simp only; omega⟩ (by have := HRR7.out.big; have := HBS.out; simp only; have hb := bsmall kind f t ps hf ht; rw [this] at hb; omega)) (fun a ha b hb k hk1 hk2 => ?_)
      simp only [List.mem_cons, List.not_mem_nil, or_false] at hb
      subst hb
      obtain ⟨i, hi, rfl⟩ := List.getElem_of_mem ha
      obtain ⟨_, _, _, _, _, _, hr5⟩ := body_row ho5 rfl (List.getElem?_eq_getElem hi)
      have h1 := (RowG.ty hr5 hk1).2.1
      have h2 := (HRA7.out.ty hk2).1
      omega
    have hkb : KHolds kByte w.heap.size w12 H10 H10 0 := KHolds.of_mem (K := kByte) (fun h hh => by
      have hh' : h ∈ H10 1 := hh
      rw [HA1.out, List.mem_append] at hh'
      rcases hh' with hh' | hh'
      · exact body_rows ho12 rfl h hh'
      · simp only [List.mem_cons, List.not_mem_nil, or_false] at hh'
        subst hh'
        exact ⟨_, hra12⟩) hfb
    have hks : KHolds kSpot w.heap.size w12 H10 H10 0 := KHolds.of_mem (K := kSpot) (fun h hh => by
      have hh' : h ∈ H10 7 := hh
      rw [HAN.out 7 (by omega) (by omega)] at hh'
      simp at hh') (by show Fine (H10 7); rw [HAN.out 7 (by omega) (by omega)]; exact fine_nil)
    have hkp : KHolds kParam w.heap.size w12 H10 H10 0 := KHolds.of_mem (K := kParam) (fun h hh => by
      have hh' : h ∈ H10 10 := hh
      rw [HA10.out] at hh'
      simp only [List.mem_cons, List.not_mem_nil, or_false] at hh'
      subst hh'
      exact ⟨_, ho12.row⟩) (by show Fine (H10 10); rw [HA10.out]; exact fine_one ⟨by simp only; omega, by simp only; omega⟩ (by simp only; omega))
    have hbw12 : Below w.heap.size w w12 := HB1.out.trans ((HB17.out.trans (hB712.mono HB17.out.size)).mono HB1.out.size)
    have hap := apart_bk w.heap.size BK _ H10 w12 hbk12 (fun k h1 h7 h10 => HAN.out k h1 h10) hkb hks hkp hbw12.size
    have HAP := Lib.hid hap
    have HBW12 := Lib.hid hbw12
    clear hap hbw12 hkp hks hkb hfb hra12 ho12 ho5 hbk12 hB712 hB12 hlo2
    go_wp2_with fail
    refine HAP.out.mono ?_; rintro e w13 ⟨rfl, hk13⟩
    have HB13 : Hid (Below w.heap.size w w13) := Lib.hid (below_keeps HBW12.out hk13 (Nat.le_refl _) (fun i hi => hi))
    clear hk13
    go_wp2_with fail
    refine (lives_true w13).mono ?_; rintro e w14 ⟨rfl, hB14⟩
    have HB14 := Lib.hid (HB13.out.trans (hB14.mono HB13.out.size))
    clear hB14
    go_wp2_with fail
    go_ret
    exact ⟨rfl, HB14.out⟩
end Go.Proofs.YtjikjdignhdipaaGreatDoor
