/- The law SpotsCredit: the walk. -/
import Derived.Test.YtanpbimamdjdfaaSAlive
namespace Go.Proofs.Ytanpbimamdjdfaa
open Go.RowKit
set_option linter.unusedSimpArgs false
set_option linter.unusedVariables false

theorem best_q {p g : Nat} {l : List Spt} {cr : Int} {w : World} (h : SetAt w p g l cr) (q : Bool) (hq : (bestOf l).2 = q) : Calls Try.prog 10 #[.pointer (some ⟨p, 0, none⟩)] w fun e w' => ∃ a, e = .returned (.tuple #[.int .u32 a, .bool q]) ∧ Below w.heap.size w w' :=
  (best_any h).mono fun e w' ⟨he, hB⟩ => ⟨(bestOf l).1, by rw [he, hq], hB⟩
theorem spend_neg {l : List Spt} {cr b : Int} (h : b < 0) : spendE l cr b = 1 ∧ spendC l cr b = cr := ⟨by unfold spendE; rw [if_pos h], by unfold spendC; rw [if_pos h]⟩
theorem spend_sure {l : List Spt} {cr b : Int} (h : 0 ≤ b) (hs : (bestOf l).2 = true) : spendE l cr b = 0 ∧ spendC l cr b = cr := ⟨by unfold spendE; rw [if_neg (by omega), if_pos hs], by unfold spendC; rw [if_neg (by omega), if_pos hs]⟩
theorem spend_no {l : List Spt} {cr b : Int} (h : 0 ≤ b) (hs : (bestOf l).2 = false) (hc : cr < b) : spendE l cr b = 6 ∧ spendC l cr b = cr := ⟨by unfold spendE; rw [if_neg (by omega), if_neg (by rw [hs]; exact Bool.false_ne_true), if_pos hc], by unfold spendC; rw [if_neg (by omega), if_neg (by rw [hs]; exact Bool.false_ne_true), if_pos hc]⟩
theorem spend_yes {l : List Spt} {cr b : Int} (h : 0 ≤ b) (hs : (bestOf l).2 = false) (hc : b ≤ cr) : spendE l cr b = 0 ∧ spendC l cr b = cr - b := ⟨by unfold spendE; rw [if_neg (by omega), if_neg (by rw [hs]; exact Bool.false_ne_true), if_neg (by omega)], by unfold spendC; rw [if_neg (by omega), if_neg (by rw [hs]; exact Bool.false_ne_true), if_neg (by omega)]⟩
/-- What holds of the counts. -/
def CountsT (k : Nat) (cr cm sp : Int) : Prop := 0 ≤ cr ∧ cr ≤ 2048 ∧ 0 ≤ cm ∧ cm ≤ 32767 * (k : Int) ∧ 0 ≤ sp ∧ sp = 0
def CountsF (k : Nat) (cr cm sp : Int) : Prop := 0 ≤ cr ∧ cr ≤ 2048 ∧ 0 ≤ cm ∧ cm ≤ 32767 * (k : Int) ∧ 0 ≤ sp ∧ sp + cr ≤ cm
set_option maxRecDepth 100000 in
set_option maxHeartbeats 16000000 in
theorem spotsCredit_walk (A0 : Option Addr) (n0 c0 : Nat) (x0 : List Int) (A1 : Option Addr) (n1 c1 : Nat) (x1 : List Int) (w : World) (r0 : Rd w .u32 A0 n0 x0) (l0 : n0 ≤ c0) (r1 : Rd w .i16 A1 n1 x1) (l1 : n1 ≤ c1) :
    Calls Try.prog 3 #[.slice A0 n0 c0, .slice A1 n1 c1] w fun e w' => e = .returned (.bool true) ∧ Below w.heap.size w w' := by
  have HR0 := Lib.hid r0
  have HR1 := Lib.hid r1
  have b0 := r0.big
  have b1 := r1.big
  clear r0 r1
  go_enter Try.func3, Try.ntmps3
  go_wp2_with fail
  refine (new_any 9 w (by omega)).mono ?_; rintro e w1 ⟨p, g, rfl, hp, hg, hS, hB⟩
  have HPB := Lib.hid hp
  have HGB := Lib.hid hg
  have HS1 := Lib.hid hS
  have HB1 := Lib.hid hB
  clear hp hg hS hB
  go_wp2_with fail
  refine (aliveS_true w1).mono ?_; rintro e w2 ⟨rfl, hB⟩
  have HS1' := Lib.hid (HS1.out.below hB)
  have HB1' := Lib.hid (HB1.out.trans (hB.mono HB1.out.size))
  clear hB
  by_cases hbig : 20 < n0 ∨ 500 < n1
  · by_cases hb0 : 20 < n0
    · have hb0i : (20 : Int) < (n0 : Int) := by omega
      clear hbig
      go_wp2_with fail
      refine (aliveS_true w2).mono ?_; rintro e w3 ⟨rfl, hB⟩
      have HB2 := Lib.hid (HB1'.out.trans (hB.mono HB1'.out.size))
      clear hB
      go_wp2_with fail
      go_ret
      exact ⟨rfl, HB2.out⟩
    · have hb0i : (n0 : Int) ≤ 20 := by omega
      have hb1i : (500 : Int) < (n1 : Int) := by omega
      have hb0n : n0 ≤ 20 := by omega
      clear hbig hb0
      go_wp2_with fail
      refine (aliveS_true w2).mono ?_; rintro e w3 ⟨rfl, hB⟩
      have HB2 := Lib.hid (HB1'.out.trans (hB.mono HB1'.out.size))
      clear hB
      go_wp2_with fail
      go_ret
      exact ⟨rfl, HB2.out⟩
  · have g0 : n0 ≤ 20 := by omega
    have g1 : n1 ≤ 500 := by omega
    clear hbig
    have HCH := Lib.hid (change_any HS1'.out A0 n0 c0 x0 (HR0.out.below HB1'.out) l0 (by omega))
    go_wp2_with fail
    refine HCH.out.mono ?_; rintro e w3 hres
    rcases hres with ⟨hno, rfl, hS, hB⟩ | ⟨hok, A', G, rfl, hl, hG, hS, hK⟩
    · have HS := Lib.hid hS
      have HBB := Lib.hid (HB1'.out.trans (hB.mono HB1'.out.size))
      have HBE := Lib.hid (best_q HS.out true rfl)
      have HSU : Hid ((bestOf [⟨9, 2, none⟩]).2 = true) := Lib.hid rfl
      clear hno hS hB
      go_wp2_with fail
      refine HBE.out.mono ?_; rintro e w4 ⟨ba, rfl, hB⟩
      have HS2 := Lib.hid (HS.out.below hB)
      have HB2 := Lib.hid (HBB.out.trans (hB.mono HBB.out.size))
      clear hB
      generalize hGL : ([⟨9, 2, none⟩] : List Spt) = L at HS2 HSU
      obtain ⟨G, hGg⟩ : ∃ G, g = G := ⟨_, rfl⟩
      rw [hGg] at HS2
      clear hGL hGg HBE HS HCH
      go_wp2_with fail
      go_loopw [11, 12, 13] (fun a b i wr => ∃ (k : Nat) (cr cm sp : Int), k ≤ n1 ∧ i = .int .i64 k ∧ a = .int .i64 cm ∧ b = .int .i64 sp ∧ CountsT k cr cm sp ∧ SetAt wr p G L cr ∧ Below w.heap.size w wr) (fun _ _ i _ => n1 - (intOf i).toNat)
      case atStart => exact ⟨0, 0, 0, 0, Nat.zero_le _, rfl, rfl, rfl, ⟨by omega, by omega, by omega, by omega, by omega, by omega⟩, HS2.out, HB2.out⟩
      case round =>
        obtain ⟨k, cr, cm, sp, hk, rfl, rfl, rfl, hc, hT, hB⟩ := hrel
        obtain ⟨q1, q2, q3, q4, q5, q6⟩ := hc
        subst q6
        by_cases hlt : k < n1
        · obtain ⟨b1, o1, rfl, hb1, hc1⟩ := HR1.out.row (by omega)
          obtain ⟨a, ha⟩ : ∃ a, x1[k]?.getD 0 = a := ⟨_, rfl⟩
          have ca : wr.cell? ⟨b1, o1 + k, none⟩ = some (.int .i16 a) := by
            have := (hB.cell (p := ⟨b1, o1 + k, none⟩) hb1).trans (hc1 k hlt)
            rwa [ha] at this
          have hab := wf_bounds_i16 (HR1.out.mem hlt)
          rw [ha] at hab
          obtain ⟨a0, a1⟩ := hab
          have HT := Lib.hid hT
          have HB := Lib.hid hB
          have i0 : (0 : Int) ≤ (k : Int) := by omega
          have i1 : (k : Int) < (n1 : Int) := by omega
          have i2 : (k : Int) ≤ 500 := by omega
          have i3 : cm ≤ 16383500 := by omega
          clear hT hB hb1 hc1 ha hlt
          by_cases hev : (k : Int) % 2 = 0
          · have hev' : (k : Int).tmod 2 = 0 := by rw [Int.tmod_eq_emod_of_nonneg i0]; exact hev
            have HEV := Lib.hid hev
            have HCM := Lib.hid (came_any HT.out a (by omega))
            have HAX : Hid (max 0 a = if 0 < a then a else 0) := Lib.hid (by split <;> omega)
            by_cases h0 : 0 < a
            · have h0' : 0 ≤ a := by omega
              clear hev
              go_wp2_with fail
              refine HCM.out.mono ?_; rintro e w4 ⟨rfl, hT4, hK4⟩
              have HT4 := Lib.hid hT4
              have HB4 := Lib.hid (below_keeps HB.out hK4 (Nat.le_refl _) (fun i hi => by rw [hi]; exact HPB.out))
              clear hT4 hK4
              go_wp2_with fail
              go_roundw
              case rel => exact ⟨k + 1, cameC cr a, cm + a, 0, by omega, by go_num, rfl, rfl, ⟨(cameC_ok a ⟨q1, q2⟩).1, (cameC_ok a ⟨q1, q2⟩).2, by omega, by omega, q5, rfl⟩, HT4.out, HB4.out⟩
              case measure => simp [intOf]; omega
            · have h0' : a ≤ 0 := by omega
              clear hev
              go_wp2_with fail
              refine HCM.out.mono ?_; rintro e w4 ⟨rfl, hT4, hK4⟩
              have HT4 := Lib.hid hT4
              have HB4 := Lib.hid (below_keeps HB.out hK4 (Nat.le_refl _) (fun i hi => by rw [hi]; exact HPB.out))
              clear hT4 hK4
              go_wp2_with fail
              go_roundw
              case rel => exact ⟨k + 1, cameC cr a, cm, 0, by omega, by go_num, by go_num, rfl, ⟨(cameC_ok a ⟨q1, q2⟩).1, (cameC_ok a ⟨q1, q2⟩).2, by omega, by omega, q5, rfl⟩, HT4.out, HB4.out⟩
              case measure => simp [intOf]; omega
          · have hev1 : (k : Int) % 2 = 1 := by omega
            have hev' : (k : Int).tmod 2 = 1 := by rw [Int.tmod_eq_emod_of_nonneg i0]; exact hev1
            clear hev
            by_cases hn : a < 0
            · have HE := spend_neg (l := L) (cr := cr) hn
              have HSA := Lib.hid (spend_at HT.out a 1 (cr) (by omega) HE.1 HE.2)
              clear HE hev1
              go_wp2_with fail
              refine HSA.out.mono ?_; rintro e w4 ⟨rfl, hT4, hK4⟩
              have HT4 := Lib.hid hT4
              have HB4 := Lib.hid (below_keeps HB.out hK4 (Nat.le_refl _) (fun i hi => by rw [hi]; exact HPB.out))
              clear hT4 hK4
              go_wp2_with fail
              go_roundw
              case rel => exact ⟨k + 1, cr, cm, 0, by omega, by go_num, rfl, rfl, ⟨by omega, by omega, q3, by omega, by omega, rfl⟩, HT4.out, HB4.out⟩
              case measure => simp [intOf]; omega
            · have hn' : 0 ≤ a := by omega
              have HE := spend_sure (l := L) (cr := cr) hn' HSU.out
              clear hn
              have HSA := Lib.hid (spend_at HT.out a 0 (cr) (by omega) HE.1 HE.2)
              clear HE hev1
              go_wp2_with fail
              refine HSA.out.mono ?_; rintro e w4 ⟨rfl, hT4, hK4⟩
              have HT4 := Lib.hid hT4
              have HB4 := Lib.hid (below_keeps HB.out hK4 (Nat.le_refl _) (fun i hi => by rw [hi]; exact HPB.out))
              clear hT4 hK4
              go_wp2_with fail
              go_roundw
              case rel => exact ⟨k + 1, cr, cm, 0, by omega, by go_num, rfl, rfl, ⟨by omega, by omega, q3, by omega, by omega, rfl⟩, HT4.out, HB4.out⟩
              case measure => simp [intOf]; omega
        · obtain rfl : k = n1 := by omega
          have HB := Lib.hid hB
          clear hB hT q1 q2 q3 q4 q5
          go_wp2_with fail
          go_ret
          exact ⟨rfl, HB.out⟩
    · obtain ⟨L, hL⟩ : ∃ L, changeL [⟨9, 2, none⟩] x0 = L := ⟨_, rfl⟩
      obtain ⟨m, hm⟩ : ∃ m, (othersL [⟨9, 2, none⟩] x0).length = m := ⟨_, rfl⟩
      rw [hL] at hS
      rw [hm]
      have HS := Lib.hid hS
      have HBB := Lib.hid (below_keeps HB1'.out hK (Nat.le_refl _) (fun i hi => by rw [hi]; exact HPB.out))
      clear hok hl hG hS hK hL hm HCH
      cases hq : (bestOf L).2 with
      | true =>
        have HBE := Lib.hid (best_q HS.out true hq)
        have HSU := Lib.hid hq
        clear hq
        go_wp2_with fail
        refine HBE.out.mono ?_; rintro e w4 ⟨ba, rfl, hB⟩
        have HS2 := Lib.hid (HS.out.below hB)
        have HB2 := Lib.hid (HBB.out.trans (hB.mono HBB.out.size))
        clear hB HBE HS
        go_wp2_with fail
        go_loopw [11, 12, 13] (fun a b i wr => ∃ (k : Nat) (cr cm sp : Int), k ≤ n1 ∧ i = .int .i64 k ∧ a = .int .i64 cm ∧ b = .int .i64 sp ∧ CountsT k cr cm sp ∧ SetAt wr p G L cr ∧ Below w.heap.size w wr) (fun _ _ i _ => n1 - (intOf i).toNat)
        case atStart => exact ⟨0, 0, 0, 0, Nat.zero_le _, rfl, rfl, rfl, ⟨by omega, by omega, by omega, by omega, by omega, by omega⟩, HS2.out, HB2.out⟩
        case round =>
          obtain ⟨k, cr, cm, sp, hk, rfl, rfl, rfl, hc, hT, hB⟩ := hrel
          obtain ⟨q1, q2, q3, q4, q5, q6⟩ := hc
          subst q6
          by_cases hlt : k < n1
          · obtain ⟨b1, o1, rfl, hb1, hc1⟩ := HR1.out.row (by omega)
            obtain ⟨a, ha⟩ : ∃ a, x1[k]?.getD 0 = a := ⟨_, rfl⟩
            have ca : wr.cell? ⟨b1, o1 + k, none⟩ = some (.int .i16 a) := by
              have := (hB.cell (p := ⟨b1, o1 + k, none⟩) hb1).trans (hc1 k hlt)
              rwa [ha] at this
            have hab := wf_bounds_i16 (HR1.out.mem hlt)
            rw [ha] at hab
            obtain ⟨a0, a1⟩ := hab
            have HT := Lib.hid hT
            have HB := Lib.hid hB
            have i0 : (0 : Int) ≤ (k : Int) := by omega
            have i1 : (k : Int) < (n1 : Int) := by omega
            have i2 : (k : Int) ≤ 500 := by omega
            have i3 : cm ≤ 16383500 := by omega
            clear hT hB hb1 hc1 ha hlt
            by_cases hev : (k : Int) % 2 = 0
            · have hev' : (k : Int).tmod 2 = 0 := by rw [Int.tmod_eq_emod_of_nonneg i0]; exact hev
              have HEV := Lib.hid hev
              have HCM := Lib.hid (came_any HT.out a (by omega))
              have HAX : Hid (max 0 a = if 0 < a then a else 0) := Lib.hid (by split <;> omega)
              by_cases h0 : 0 < a
              · have h0' : 0 ≤ a := by omega
                clear hev
                go_wp2_with fail
                refine HCM.out.mono ?_; rintro e w4 ⟨rfl, hT4, hK4⟩
                have HT4 := Lib.hid hT4
                have HB4 := Lib.hid (below_keeps HB.out hK4 (Nat.le_refl _) (fun i hi => by rw [hi]; exact HPB.out))
                clear hT4 hK4
                go_wp2_with fail
                go_roundw
                case rel => exact ⟨k + 1, cameC cr a, cm + a, 0, by omega, by go_num, rfl, rfl, ⟨(cameC_ok a ⟨q1, q2⟩).1, (cameC_ok a ⟨q1, q2⟩).2, by omega, by omega, q5, rfl⟩, HT4.out, HB4.out⟩
                case measure => simp [intOf]; omega
              · have h0' : a ≤ 0 := by omega
                clear hev
                go_wp2_with fail
                refine HCM.out.mono ?_; rintro e w4 ⟨rfl, hT4, hK4⟩
                have HT4 := Lib.hid hT4
                have HB4 := Lib.hid (below_keeps HB.out hK4 (Nat.le_refl _) (fun i hi => by rw [hi]; exact HPB.out))
                clear hT4 hK4
                go_wp2_with fail
                go_roundw
                case rel => exact ⟨k + 1, cameC cr a, cm, 0, by omega, by go_num, by go_num, rfl, ⟨(cameC_ok a ⟨q1, q2⟩).1, (cameC_ok a ⟨q1, q2⟩).2, by omega, by omega, q5, rfl⟩, HT4.out, HB4.out⟩
                case measure => simp [intOf]; omega
            · have hev1 : (k : Int) % 2 = 1 := by omega
              have hev' : (k : Int).tmod 2 = 1 := by rw [Int.tmod_eq_emod_of_nonneg i0]; exact hev1
              clear hev
              by_cases hn : a < 0
              · have HE := spend_neg (l := L) (cr := cr) hn
                have HSA := Lib.hid (spend_at HT.out a 1 (cr) (by omega) HE.1 HE.2)
                clear HE hev1
                go_wp2_with fail
                refine HSA.out.mono ?_; rintro e w4 ⟨rfl, hT4, hK4⟩
                have HT4 := Lib.hid hT4
                have HB4 := Lib.hid (below_keeps HB.out hK4 (Nat.le_refl _) (fun i hi => by rw [hi]; exact HPB.out))
                clear hT4 hK4
                go_wp2_with fail
                go_roundw
                case rel => exact ⟨k + 1, cr, cm, 0, by omega, by go_num, rfl, rfl, ⟨by omega, by omega, q3, by omega, by omega, rfl⟩, HT4.out, HB4.out⟩
                case measure => simp [intOf]; omega
              · have hn' : 0 ≤ a := by omega
                have HE := spend_sure (l := L) (cr := cr) hn' HSU.out
                clear hn
                have HSA := Lib.hid (spend_at HT.out a 0 (cr) (by omega) HE.1 HE.2)
                clear HE hev1
                go_wp2_with fail
                refine HSA.out.mono ?_; rintro e w4 ⟨rfl, hT4, hK4⟩
                have HT4 := Lib.hid hT4
                have HB4 := Lib.hid (below_keeps HB.out hK4 (Nat.le_refl _) (fun i hi => by rw [hi]; exact HPB.out))
                clear hT4 hK4
                go_wp2_with fail
                go_roundw
                case rel => exact ⟨k + 1, cr, cm, 0, by omega, by go_num, rfl, rfl, ⟨by omega, by omega, q3, by omega, by omega, rfl⟩, HT4.out, HB4.out⟩
                case measure => simp [intOf]; omega
          · obtain rfl : k = n1 := by omega
            have HB := Lib.hid hB
            clear hB hT q1 q2 q3 q4 q5
            go_wp2_with fail
            go_ret
            exact ⟨rfl, HB.out⟩
      | false =>
        have HBE := Lib.hid (best_q HS.out false hq)
        have HSU := Lib.hid hq
        clear hq
        go_wp2_with fail
        refine HBE.out.mono ?_; rintro e w4 ⟨ba, rfl, hB⟩
        have HS2 := Lib.hid (HS.out.below hB)
        have HB2 := Lib.hid (HBB.out.trans (hB.mono HBB.out.size))
        clear hB HBE HS
        go_wp2_with fail
        go_loopw [11, 12, 13] (fun a b i wr => ∃ (k : Nat) (cr cm sp : Int), k ≤ n1 ∧ i = .int .i64 k ∧ a = .int .i64 cm ∧ b = .int .i64 sp ∧ CountsF k cr cm sp ∧ SetAt wr p G L cr ∧ Below w.heap.size w wr) (fun _ _ i _ => n1 - (intOf i).toNat)
        case atStart => exact ⟨0, 0, 0, 0, Nat.zero_le _, rfl, rfl, rfl, ⟨by omega, by omega, by omega, by omega, by omega, by omega⟩, HS2.out, HB2.out⟩
        case round =>
          obtain ⟨k, cr, cm, sp, hk, rfl, rfl, rfl, hc, hT, hB⟩ := hrel
          obtain ⟨q1, q2, q3, q4, q5, q6⟩ := hc
          by_cases hlt : k < n1
          · obtain ⟨b1, o1, rfl, hb1, hc1⟩ := HR1.out.row (by omega)
            obtain ⟨a, ha⟩ : ∃ a, x1[k]?.getD 0 = a := ⟨_, rfl⟩
            have ca : wr.cell? ⟨b1, o1 + k, none⟩ = some (.int .i16 a) := by
              have := (hB.cell (p := ⟨b1, o1 + k, none⟩) hb1).trans (hc1 k hlt)
              rwa [ha] at this
            have hab := wf_bounds_i16 (HR1.out.mem hlt)
            rw [ha] at hab
            obtain ⟨a0, a1⟩ := hab
            have HT := Lib.hid hT
            have HB := Lib.hid hB
            have i0 : (0 : Int) ≤ (k : Int) := by omega
            have i1 : (k : Int) < (n1 : Int) := by omega
            have i2 : (k : Int) ≤ 500 := by omega
            have i3 : cm ≤ 16383500 := by omega
            clear hT hB hb1 hc1 ha hlt
            by_cases hev : (k : Int) % 2 = 0
            · have hev' : (k : Int).tmod 2 = 0 := by rw [Int.tmod_eq_emod_of_nonneg i0]; exact hev
              have HEV := Lib.hid hev
              have HCM := Lib.hid (came_any HT.out a (by omega))
              have HAX : Hid (max 0 a = if 0 < a then a else 0) := Lib.hid (by split <;> omega)
              by_cases h0 : 0 < a
              · have h0' : 0 ≤ a := by omega
                clear hev
                go_wp2_with fail
                refine HCM.out.mono ?_; rintro e w4 ⟨rfl, hT4, hK4⟩
                have HT4 := Lib.hid hT4
                have HB4 := Lib.hid (below_keeps HB.out hK4 (Nat.le_refl _) (fun i hi => by rw [hi]; exact HPB.out))
                clear hT4 hK4
                go_wp2_with fail
                go_roundw
                case rel => exact ⟨k + 1, cameC cr a, cm + a, sp, by omega, by go_num, rfl, rfl, ⟨(cameC_ok a ⟨q1, q2⟩).1, (cameC_ok a ⟨q1, q2⟩).2, by omega, by omega, q5, by unfold cameC; rw [if_pos (by omega)]; omega⟩, HT4.out, HB4.out⟩
                case measure => simp [intOf]; omega
              · have h0' : a ≤ 0 := by omega
                clear hev
                go_wp2_with fail
                refine HCM.out.mono ?_; rintro e w4 ⟨rfl, hT4, hK4⟩
                have HT4 := Lib.hid hT4
                have HB4 := Lib.hid (below_keeps HB.out hK4 (Nat.le_refl _) (fun i hi => by rw [hi]; exact HPB.out))
                clear hT4 hK4
                go_wp2_with fail
                go_roundw
                case rel => exact ⟨k + 1, cameC cr a, cm, sp, by omega, by go_num, by go_num, rfl, ⟨(cameC_ok a ⟨q1, q2⟩).1, (cameC_ok a ⟨q1, q2⟩).2, by omega, by omega, q5, by unfold cameC; rw [if_neg (by omega)]; omega⟩, HT4.out, HB4.out⟩
                case measure => simp [intOf]; omega
            · have hev1 : (k : Int) % 2 = 1 := by omega
              have hev' : (k : Int).tmod 2 = 1 := by rw [Int.tmod_eq_emod_of_nonneg i0]; exact hev1
              clear hev
              by_cases hn : a < 0
              · have HE := spend_neg (l := L) (cr := cr) hn
                have hnz : ¬ a = 0 := by omega
                have hle : sp ≤ cm := by omega
                have HSA := Lib.hid (spend_at HT.out a 1 (cr) (by omega) HE.1 HE.2)
                clear HE hev1
                go_wp2_with fail
                refine HSA.out.mono ?_; rintro e w4 ⟨rfl, hT4, hK4⟩
                have HT4 := Lib.hid hT4
                have HB4 := Lib.hid (below_keeps HB.out hK4 (Nat.le_refl _) (fun i hi => by rw [hi]; exact HPB.out))
                clear hT4 hK4
                go_wp2_with fail
                go_roundw
                case rel => exact ⟨k + 1, cr, cm, sp, by omega, by go_num, rfl, rfl, ⟨by omega, by omega, q3, by omega, by omega, by omega⟩, HT4.out, HB4.out⟩
                case measure => simp [intOf]; omega
              · have hn' : 0 ≤ a := by omega
                clear hn
                by_cases hz : a = 0
                · subst hz
                  have HE := spend_yes (l := L) (cr := cr) (Int.le_refl 0) HSU.out q1
                  have hle : sp ≤ cm := by omega
                  have HSA := Lib.hid (spend_at HT.out 0 0 (cr - 0) (by omega) HE.1 HE.2)
                  clear HE hev1
                  go_wp2_with fail
                  refine HSA.out.mono ?_; rintro e w4 ⟨rfl, hT4, hK4⟩
                  have HT4 := Lib.hid hT4
                  have HB4 := Lib.hid (below_keeps HB.out hK4 (Nat.le_refl _) (fun i hi => by rw [hi]; exact HPB.out))
                  clear hT4 hK4
                  go_wp2_with fail
                  go_roundw
                  case rel => exact ⟨k + 1, cr - 0, cm, sp, by omega, by go_num, rfl, rfl, ⟨by omega, by omega, q3, by omega, by omega, by omega⟩, HT4.out, HB4.out⟩
                  case measure => simp [intOf]; omega
                · have hnz : 1 ≤ a := by omega
                  by_cases hcr : cr < a
                  · have HE := spend_no (l := L) (cr := cr) hn' HSU.out hcr
                    have hle : sp ≤ cm := by omega
                    have HSA := Lib.hid (spend_at HT.out a 6 (cr) (by omega) HE.1 HE.2)
                    clear HE hev1
                    go_wp2_with fail
                    refine HSA.out.mono ?_; rintro e w4 ⟨rfl, hT4, hK4⟩
                    have HT4 := Lib.hid hT4
                    have HB4 := Lib.hid (below_keeps HB.out hK4 (Nat.le_refl _) (fun i hi => by rw [hi]; exact HPB.out))
                    clear hT4 hK4
                    go_wp2_with fail
                    go_roundw
                    case rel => exact ⟨k + 1, cr, cm, sp, by omega, by go_num, rfl, rfl, ⟨by omega, by omega, q3, by omega, by omega, by omega⟩, HT4.out, HB4.out⟩
                    case measure => simp [intOf]; omega
                  · have hcr' : a ≤ cr := by omega
                    have HE := spend_yes (l := L) (cr := cr) hn' HSU.out hcr'
                    have hle : sp + a ≤ cm := by omega
                    have hle2 : a ≤ 2048 := by omega
                    clear hcr
                    have HSA := Lib.hid (spend_at HT.out a 0 (cr - a) (by omega) HE.1 HE.2)
                    clear HE hev1
                    go_wp2_with fail
                    refine HSA.out.mono ?_; rintro e w4 ⟨rfl, hT4, hK4⟩
                    have HT4 := Lib.hid hT4
                    have HB4 := Lib.hid (below_keeps HB.out hK4 (Nat.le_refl _) (fun i hi => by rw [hi]; exact HPB.out))
                    clear hT4 hK4
                    go_wp2_with fail
                    go_roundw
                    case rel => exact ⟨k + 1, cr - a, cm, sp + a, by omega, by go_num, rfl, rfl, ⟨by omega, by omega, q3, by omega, by omega, by omega⟩, HT4.out, HB4.out⟩
                    case measure => simp [intOf]; omega
          · obtain rfl : k = n1 := by omega
            have HB := Lib.hid hB
            clear hB hT q1 q2 q3 q4 q5
            go_wp2_with fail
            go_ret
            exact ⟨rfl, HB.out⟩
end Go.Proofs.Ytanpbimamdjdfaa
