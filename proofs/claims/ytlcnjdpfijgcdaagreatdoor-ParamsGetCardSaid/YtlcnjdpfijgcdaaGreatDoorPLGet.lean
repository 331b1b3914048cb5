/- The walk over the law ParamsGet. -/
import Derived.Test.YtlcnjdpfijgcdaaGreatDoorKRef13Get
import Derived.Test.YtlcnjdpfijgcdaaGreatDoorKPaGet
import Derived.Test.YtlcnjdpfijgcdaaGreatDoorKSmall
import Derived.Test.YtlcnjdpfijgcdaaGreatDoorKSamePs
import Derived.Test.YtlcnjdpfijgcdaaGreatDoorPsBook
import Derived.Test.YtlcnjdpfijgcdaaGreatDoorPsFine
import Derived.Test.YtlcnjdpfijgcdaaGreatDoorBkApart
import Derived.Test.YtlcnjdpfijgcdaaGreatDoorKTwin2
import Derived.Test.YtlcnjdpfijgcdaaGreatDoorKLeft
import Derived.Test.YtlcnjdpfijgcdaaGreatDoorPLive
namespace Go.Proofs.YtlcnjdpfijgcdaaGreatDoor
open Go.RowKit
set_option linter.unusedSimpArgs false
set_option linter.unusedVariables false

/-- The pieces that are got, if they are. -/
def aPs (bs : List Int) : List Piece := if (paGet bs).1 = 0 then (paGet bs).2 else []
theorem aPs_small (bs : List Int) : (aPs bs).length ≤ 16 ∧ ∀ p ∈ aPs bs, p.2.length ≤ 2048 := by
  unfold aPs
  split
  · exact paGet_small _
  · simp
theorem psOwn_nil (base : Nat) (w : World) : PsOwn base w (.slice none 0 0) [] [] :=
  ⟨RowG.of_own (own_nil _ _ _ _), fun j t body hj => by simp at hj, fun i j g n c n' c' _ h => by simp at h⟩
def PaGotU (w : World) (bs : List Int) (e : Ending) (w' : World) : Prop :=
  ∃ A c cells, e = .returned (.tuple #[.slice A (aPs bs).length c, .int .i64 (paGet bs).1]) ∧ PsOwn w.heap.size w' (.slice A (aPs bs).length c) (aPs bs) cells ∧ Ps w' A (aPs bs).length (aPs bs) ∧ Below w.heap.size w w'
def RPaGotU (w : World) (bs : List Int) (e : Ending) (w' : World) : Prop :=
  ∃ A c, e = .returned (.tuple #[.slice A (aPs bs).length c, .int .i64 (paGet bs).1]) ∧ Ps w' A (aPs bs).length (aPs bs) ∧ Below w.heap.size w w'
theorem paget_u (A0 : Option Addr) (n0 c0 : Nat) (bs : List Int) (w : World) (r0 : Rd w .u8 A0 n0 bs) (l0 : n0 ≤ c0) (hz0 : A0 = none → c0 = 0) : Calls Tryz.prog 7 #[.slice A0 n0 c0] w (PaGotU w bs) :=
  (paget_any A0 n0 c0 bs w r0 l0 hz0).mono fun e w' h => by
    rcases h with ⟨h1, rfl, h2⟩ | ⟨A, h1, rfl, h3, h4, h5⟩
    · refine ⟨none, 0, [], ?_, ?_, ?_, h2⟩
      · simp [aPs, h1]
      · simp only [aPs, if_neg h1]; exact psOwn_nil _ _
      · simp only [aPs, if_neg h1]; exact ps_nil _
    · obtain ⟨cells, ho⟩ := h3.own
      refine ⟨A, (paGet bs).2.length, cells, ?_, ?_, ?_, h5⟩
      · simp [aPs, h1]
      · simp only [aPs, if_pos h1]; exact ho
      · simp only [aPs, if_pos h1]; exact h3.ps
theorem refpaget_u (A0 : Option Addr) (n0 c0 : Nat) (bs : List Int) (w : World) (r0 : Rd w .u8 A0 n0 bs) (l0 : n0 ≤ c0) (hz0 : A0 = none → c0 = 0) : Calls Tryz.prog 8 #[.slice A0 n0 c0] w (RPaGotU w bs) :=
  (refpaget_any A0 n0 c0 bs w r0 l0 hz0).mono fun e w' h => by
    rcases h with ⟨h1, rfl, h2⟩ | ⟨A, c, h1, rfl, h3, h5⟩
    · refine ⟨none, 0, ?_, ?_, h2⟩
      · simp [aPs, h1]
      · simp only [aPs, if_neg h1]; exact ps_nil _
    · refine ⟨A, c, ?_, ?_, h5⟩
      · simp [aPs, h1]
      · simp only [aPs, if_pos h1]; exact h3 _ (Keeps.refl _ _)

set_option maxRecDepth 100000 in
set_option maxHeartbeats 8000000 in
theorem paget_at (A0 : Option Addr) (n0 c0 : Nat) (bs : List Int) (w : World) (r0 : Rd w .u8 A0 n0 bs) (l0 : n0 ≤ c0) (z0 : A0 = none → c0 = 0) :
    Calls Tryz.prog 3 #[.slice A0 n0 c0] w fun e w' => e = .returned (.bool true) ∧ Below w.heap.size w w' := by
  by_cases hbig : 10000 < n0
  · have hb' : (10000 : Int) < (n0 : Int) := by omega
    go_enter Tryz.func3, Tryz.ntmps3
    go_wp2_with fail
    refine (lives_true w).mono ?_; rintro e w3 ⟨rfl, hB3⟩
    have HB3 := Lib.hid hB3
    clear hB3
    go_wp2_with fail
    go_ret
    exact ⟨rfl, HB3.out⟩
  · have hb' : ¬ (10000 : Int) < (n0 : Int) := by omega
    have hl := r0.len
    have HR0 := Lib.hid r0
    have HZ0 := Lib.hid z0
    have HTW := Lib.hid (twin2_any A0 n0 c0 bs w r0 l0 (by omega))
    have HL := Lib.hid hl
    clear r0 z0
    go_enter Tryz.func3, Tryz.ntmps3
    go_wp2_with fail
    refine HTW.out.mono ?_; rintro e w1 ⟨g, cap, rfl, hcap, hcm, hg, hlt, ho, hB1⟩
    rw [hl] at hcap ho ⊢
    have hby : ∀ x ∈ bs ++ [77], 0 ≤ x ∧ x ≤ 255 := fun x hx => by
      rcases List.mem_append.1 hx with h | h
      · exact rd_bytes HR0.out x h
      · obtain rfl : x = 77 := by simpa using h
        omega
    have r77 : Rd w1 .u8 (some ⟨g, 0, none⟩) (n0 + 1) (bs ++ [77]) := rd_own ho hby (by omega)
    have rt : Rd w1 .u8 (some ⟨g, 0, none⟩) n0 bs := by
      have := r77.cut n0 (by omega)
      rwa [List.take_append_of_le_length (by omega), List.take_of_length_le (by omega)] at this
    have hT : RowG 5 1 w.heap.size w1 (.slice (some ⟨g, 0, none⟩) n0 cap) n0 (bs.map (Value.int .u8)) := by
      have := own_take ho (m := n0) (by omega)
      rw [← List.map_take, List.take_append_of_le_length (by omega), List.take_of_length_le (by omega)] at this
      exact RowG.of_own this
    have hpg : ∀ W, Below w1.heap.size w1 W → Calls Tryz.prog 7 #[.slice (some ⟨g, 0, none⟩) n0 cap] W (PaGotU W bs) := fun W hW => paget_u _ n0 cap bs W (rt.below hW) (by omega) (fun e => by cases e)
    have hrg : ∀ W, Below w1.heap.size w1 W → Calls Tryz.prog 8 #[.slice A0 n0 c0] W (RPaGotU W bs) := fun W hW => refpaget_u A0 n0 c0 bs W (HR0.out.below (hB1.trans (hW.mono hB1.size))) l0 HZ0.out
    have hleft : ∀ W, Below w1.heap.size w1 W → Calls Tryz.prog 12 #[.slice (some ⟨g, 0, none⟩) n0 cap, .slice A0 n0 c0] W fun e W' => e = .returned (.bool true) ∧ Drawn W W' := fun W hW => left_any g n0 cap bs A0 c0 W hcap hcm (r77.below hW) (HR0.out.below (hB1.trans (hW.mono hB1.size)))
    obtain ⟨hsm1, hsm2⟩ := aPs_small bs
    unfold PaGotU at hpg
    unfold RPaGotU at hrg
    generalize aPs bs = ps at hpg hrg hsm1 hsm2
    generalize (paGet bs).1 = E at hpg hrg
    have HPG := Lib.hid hpg
    have HRG := Lib.hid hrg
    have HLEFT := Lib.hid hleft
    have HTR := Lib.hid hT
    have HB1 := Lib.hid hB1
    have HSM2 := Lib.hid hsm2
    clear hpg hrg hleft hT hB1 hsm2 hcap hcm hby r77 rt ho hg HTW
    go_wp2_with fail
    refine (HPG.out w1 (Below.refl _ _)).mono ?_; rintro e w2 ⟨A, c, cells, rfl, ho2, hps2, hB2⟩
    have HB2 := Lib.hid hB2
    have HO2 := Lib.hid ho2
    have HPS2 := Lib.hid hps2
    clear ho2 hps2 hB2
    go_wp2_with fail
    refine (HRG.out w2 HB2.out).mono ?_; rintro e w7 ⟨A', c', rfl, hps7, hB27⟩
    have hbk := book_new (base := w7.heap.size) w7 (Nat.le_refl _)
    have hB8 := new_belowB w7 (.cells zBook.toArray 45)
    obtain ⟨w8, hw8⟩ : ∃ w8, w7.alloc (.cells zBook.toArray 45) = w8 := ⟨_, rfl⟩
    rw [hw8] at hbk hB8
    have HB17 : Hid (Below w1.heap.size w1 w7) := Lib.hid (HB2.out.trans (hB27.mono HB2.out.size))
    have HPS7 := Lib.hid hps7
    have HO7 := Lib.hid (HO2.out.below hB27)
    have HP27 := Lib.hid (HPS2.out.below hB27)
    have HB78 := Lib.hid hB8
    have HAL8 : Hid (∀ (o : Oper), o.op = .alloc 45 → ∀ ev, (execOp ev o).run Tryz.prog w7 = .ok (.value (.pointer (some ⟨w7.heap.size, 0, none⟩))) w8) := Lib.hid (fun o ho ev => by rw [← hw8]; exact exec_alloc_book w7 o ho ev)
    obtain ⟨BK, hBK⟩ : ∃ BK, w7.heap.size = BK := ⟨_, rfl⟩
    rw [hBK] at hbk HAL8
    have hS8 : BK ≤ w8.heap.size := by rw [← hBK]; exact hB8.size
    have hby := bytes_bk BK BK 0 noH (some ⟨g, 0, none⟩) n0 cap w8 hbk hS8 (by omega)
    have HBY := Lib.hid hby
    have HBKE := Lib.hid hBK
    have HS8 := Lib.hid hS8
    clear hbk hB8 hw8 hB27 hps7 hBK hS8 hby HPG HRG HO2 HPS2
    go_wp2_with (refine wpList_value (o := ⟨some 8, .alloc 45, _, _, _, _⟩) (v := .pointer (some ⟨BK, 0, none⟩)) (w' := w8) rfl (HAL8.out _ rfl _) ?_)
    refine HBY.out.mono ?_; rintro e w9 ⟨rfl, hbk9, hk9⟩
    have hB79 : Below BK w7 w9 := by
      have := HB78.out
      rw [HBKE.out] at this
      exact this.trans (hk9.to_below HS8.out (fun i hi => hi.lo (Nat.le_refl _) HS8.out))
    have hS9 : BK ≤ w9.heap.size := Nat.le_trans HS8.out hk9.size
    have hB79' : Below w7.heap.size w7 w9 := by rw [HBKE.out]; exact hB79
    obtain ⟨H9, hH9⟩ : ∃ H9, upd noH 1 (noH 1 ++ [⟨some ⟨g, 0, none⟩, n0, cap, none, 0, 0, 0 + 1⟩]) = H9 := ⟨_, rfl⟩
    rw [hH9] at hbk9
    have hH91 : H9 1 = [⟨some ⟨g, 0, none⟩, n0, cap, none, 0, 0, 0 + 1⟩] := by rw [← hH9, upd_same]; rfl
    have hH9n : ∀ k, k ≠ 1 → H9 k = [] := fun k h1 => by rw [← hH9, upd_ne _ _ h1]; rfl
    have hbp := bparams_bk BK w1.heap.size BK (0 + 1) H9 A ps.length c ps cells w9 hbk9 hS9 (HO7.out.below hB79') rfl (by omega)
    have HBP := Lib.hid hbp
    have HB79 := Lib.hid hB79
    have HS9 := Lib.hid hS9
    have HH91 := Lib.hid hH91
    have HH9N := Lib.hid hH9n
    clear hbk9 hk9 hB79 hS9 hB79' hH9 hH91 hH9n hbp HBY HAL8 HB78
    go_wp2_with fail
    refine HBP.out.mono ?_; rintro e w10 ⟨rfl, hbk10, hk10⟩
    have hB710 : Below BK w7 w10 := HB79.out.trans (hk10.to_below HS9.out (fun i hi => by
      rcases hi with rfl | hi | hi
      · exact Nat.le_refl _
      · exact hi.lo HS9.out
      · exact hi.lo HS9.out))
    have hB710' : Below w7.heap.size w7 w10 := by rw [HBKE.out]; exact hB710
    obtain ⟨H10, hH10⟩ : ∃ H10, upd (upd H9 1 (H9 1 ++ bodyH cells (0 + 1) ps.length)) 10 (H9 10 ++ [⟨A, ps.length, c, none, 0, 0, 0 + 1 + ps.length + 1⟩]) = H10 := ⟨_, rfl⟩
    rw [hH10] at hbk10
    have HA1 : Hid (H10 1 = [⟨some ⟨g, 0, none⟩, n0, cap, none, 0, 0, 0 + 1⟩] ++ bodyH cells (0 + 1) ps.length) := Lib.hid (by rw [← hH10, upd_ne _ _ (by omega), upd_same, HH91.out])
    have HA10 : Hid (H10 10 = [⟨A, ps.length, c, none, 0, 0, 0 + 1 + ps.length + 1⟩]) := Lib.hid (by rw [← hH10, upd_same, HH9N.out 10 (by omega)]; rfl)
    have HAN : Hid (∀ k, k ≠ 1 → k ≠ 10 → H10 k = []) := Lib.hid (fun k h1 h2 => by rw [← hH10, upd_ne _ _ h2, upd_ne _ _ h1]; exact HH9N.out k h1)
    have hsame := sameps_any A A' ps.length c ps.length c' ps w10 (HP27.out.below hB710') (HPS7.out.below hB710')
    have HSAME := Lib.hid hsame
    have HB710 := Lib.hid hB710'
    have HBK10 := Lib.hid hbk10
    have hEE : (E == E) = true := by simp
    clear hbk10 hk10 hB710 hB710' hH10 hsame HBP HH91 HH9N
    go_wp2_with fail
    refine HSAME.out.mono ?_; rintro e w11 ⟨rfl, hB11⟩
    have hB711 : Below w7.heap.size w7 w11 := HB710.out.trans (hB11.mono HB710.out.size)
    have hB111 : Below w1.heap.size w1 w11 := HB17.out.trans (hB711.mono HB17.out.size)
    have HBK11 := Lib.hid (HBK10.out.below hB11)
    have HB711 := Lib.hid hB711
    have HB111 := Lib.hid hB111
    clear hB11 hB711 hB111
    go_wp2_with fail
    refine (HLEFT.out w11 HB111.out).mono ?_; rintro e w12 ⟨rfl, hD12⟩
    have hB712 : Below w7.heap.size w7 w12 := below_drawn HB711.out hD12
    have hB112 : Below w1.heap.size w1 w12 := below_drawn HB111.out hD12
    have hbw12 : Below w.heap.size w w12 := HB1.out.trans (hB112.mono HB1.out.size)
    have hS7 : w.heap.size ≤ BK := by have h1 := HB1.out.size; have h2 := HB17.out.size; have h3 := HBKE.out; omega
    have hbk12 : BookAt w.heap.size w12 BK (0 + 1 + ps.length + 1) H10 := (HBK11.out.below (below_drawn (Below.refl _ _) hD12)).lower hS7
    have ho12 : PsOwn w.heap.size w12 (.slice A ps.length c) ps cells := (HO7.out.below hB712).lower HB1.out.size
    have hra12 : RowG 5 1 w.heap.size w12 (.slice (some ⟨g, 0, none⟩) n0 cap) n0 (bs.map (Value.int .u8)) := HTR.out.below hB112
    have ho7 := HO7.out
    have hsm := HSM2.out
    have hfb : Fine (H10 1) := by
      rw [HA1.out]
      refine fine_append (fine_one ⟨by simp only; omega, by simp only; omega⟩ (by simp only; omega)) (fine_bodies ho12 rfl (by omega) (fun p hp => by have := hsm p hp; omega)) (fun a ha b hb k hk1 hk2 => ?_)
      simp only [List.mem_cons, List.not_mem_nil, or_false] at ha
      subst ha
      obtain ⟨i, hi, rfl⟩ := List.getElem_of_mem hb
      obtain ⟨_, _, _, _, _, _, hr5⟩ := body_row ho7 rfl (List.getElem?_eq_getElem hi)
      have h1 := (RowG.ty hr5 hk2).1
      have h2 := (HTR.out.ty hk1).2.1
      omega
    have hkb : KHolds kByte w.heap.size w12 H10 H10 0 := KHolds.of_mem (K := kByte) (fun h hh => by
      have hh' : h ∈ H10 1 := hh
      rw [HA1.out, List.mem_append] at hh'
      rcases hh' with hh' | hh'
      · simp only [List.mem_cons, List.not_mem_nil, or_false] at hh'
        subst hh'
        exact ⟨_, hra12⟩
      · exact body_rows ho12 rfl h hh') hfb
    have hks : KHolds kSpot w.heap.size w12 H10 H10 0 := KHolds.of_mem (K := kSpot) (fun h hh => by
      have hh' : h ∈ H10 7 := hh
      rw [HAN.out 7 (by omega) (by omega)] at hh'
      simp at hh') (by show Fine (H10 7); rw [HAN.out 7 (by omega) (by omega)]; exact fine_nil)
    have hkp : KHolds kParam w.heap.size w12 H10 H10 0 := KHolds.of_mem (K := kParam) (fun h hh => by
      have hh' : h ∈ H10 10 := hh
      rw [HA10.out] at hh'
      simp only [List.mem_cons, List.not_mem_nil, or_false] at hh'
      subst hh'
      exact ⟨_, ho12.row⟩) (by show Fine (H10 10); rw [HA10.out]; exact fine_one ⟨by simp only; omega, by simp only; omega⟩ (by simp only; omega))
    have hap := apart_bk w.heap.size BK _ H10 w12 hbk12 (fun k h1 h7 h10 => HAN.out k h1 h10) hkb hks hkp hbw12.size
    have HAP := Lib.hid hap
    have HBW12 := Lib.hid hbw12
    clear hap hbw12 hkp hks hkb hfb hra12 ho12 ho7 hsm hbk12 hB712 hB112 hD12
    go_wp2_with fail
    refine HAP.out.mono ?_; rintro e w13 ⟨rfl, hk13⟩
    have HB13 : Hid (Below w.heap.size w w13) := Lib.hid (below_keeps HBW12.out hk13 (Nat.le_refl _) (fun i hi => hi))
    clear hk13
    go_wp2_with fail
    refine (lives_true w13).mono ?_; rintro e w14 ⟨rfl, hB14⟩
    have HB14 := Lib.hid (HB13.out.trans (hB14.mono HB13.out.size))
    clear hB14
    go_wp2_with fail
    go_ret
    exact ⟨rfl, HB14.out⟩
theorem paramsGet_walk (A0 : Option Addr) (n0 c0 : Nat) (bs : List Int) (w : World) (r0 : Rd w .u8 A0 n0 bs) (l0 : n0 ≤ c0) (z0 : A0 = none → c0 = 0) (m0 : c0 ≤ 140737488351232) (q0 : 0 < c0 → ∃ b off, A0 = some ⟨b, off, none⟩) :
    Calls Tryz.prog 3 #[.slice A0 n0 c0] w fun e w' => e = .returned (.bool true) ∧ Below w.heap.size w w' := paget_at A0 n0 c0 bs w r0 l0 z0
end Go.Proofs.YtlcnjdpfijgcdaaGreatDoor
