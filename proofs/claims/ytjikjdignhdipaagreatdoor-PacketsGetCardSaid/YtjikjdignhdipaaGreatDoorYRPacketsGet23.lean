/- The walks over SameBytes; The walk over LeftBytes: a twin that was left as it was is told to be so. -/
import Derived.Test.YtjikjdignhdipaaGreatDoorYRPacketsGet1
import Derived.Test.YtjikjdignhdipaaGreatDoorYRPacketsGet3
namespace Go.Proofs.YtjikjdignhdipaaGreatDoor
open Go.RowKit
set_option linter.unusedSimpArgs false
set_option linter.unusedVariables false

theorem take_eq_of {α : Type} (l m : List α) (h : ∀ j, j < l.length → l[j]? = m[j]?) (hl : l.length = m.length) : l = m := by
  apply List.ext_getElem? 
  intro i
  rcases Nat.lt_or_ge i l.length with h1 | h1
  · exact h i h1
  · rw [List.getElem?_eq_none h1, List.getElem?_eq_none (by omega)]

set_option maxRecDepth 100000 in
set_option maxHeartbeats 1000000 in
theorem same_any (A0 : Option Addr) (n0 c0 : Nat) (x0 : List Int) (A1 : Option Addr) (n1 c1 : Nat) (x1 : List Int) (w : World) (r0 : Rd w .u8 A0 n0 x0) (r1 : Rd w .u8 A1 n1 x1) :
    Calls Tryz.prog 12 #[.slice A0 n0 c0, .slice A1 n1 c1] w fun e w' => e = .returned (.bool (decide (x0 = x1))) ∧ Drawn w w' := by
  have h0 := r0.len
  have h1 := r1.len
  have b0 := r0.big
  have b1 := r1.big
  by_cases hn : n0 = n1
  · subst hn
    go_enter Tryz.func12, Tryz.ntmps12
    go_wp2_with fail
    go_loopw [5] (fun i wr => ∃ k : Nat, k ≤ n0 ∧ i = .int .i64 k ∧ (∀ j, j < k → x0[j]? = x1[j]?) ∧ Drawn w wr) (fun i _ => n0 - (intOf i).toNat)
    case atStart => exact ⟨0, Nat.zero_le _, rfl, fun j hj => absurd hj (by omega), Drawn.refl _⟩
    case round =>
      obtain ⟨k, hk, rfl, hpre, q, rfl⟩ := hrel
      by_cases hlt : k < n0
      · obtain ⟨a, oa, rfl, _, ha⟩ := r0.row (by omega)
        obtain ⟨b, ob, rfl, _, hb⟩ := r1.row (by omega)
        have hca := ha k hlt
        have hcb := hb k hlt
        obtain ⟨u, hu⟩ : ∃ u, x0[k]?.getD 0 = u := ⟨_, rfl⟩
        obtain ⟨v, hv⟩ : ∃ v, x1[k]?.getD 0 = v := ⟨_, rfl⟩
        rw [hu] at hca
        rw [hv] at hcb
        have i0 : (0 : Int) ≤ (k : Int) := by omega
        have i1 : (k : Int) < (n0 : Int) := by omega
        have HPRE := Lib.hid hpre
        have hk0 : x0[k]? = some u := by rw [← hu, List.getElem?_eq_getElem (by omega)]; rfl
        have hk1 : x1[k]? = some v := by rw [← hv, List.getElem?_eq_getElem (by omega)]; rfl
        have HK0 := Lib.hid hk0
        have HK1 := Lib.hid hk1
        clear hpre ha hb hu hv hk0 hk1
        by_cases huv : u = v
        · subst huv
          go_wp2_with fail
          go_quiet (fail)
          go_wp2_with fail
          go_roundw
          case rel =>
            refine ⟨k + 1, by omega, by go_num, ?_, _, rfl⟩
            intro j hj
            rcases Nat.lt_or_ge j k with h | h
            · exact HPRE.out j h
            · obtain rfl : j = k := by omega
              rw [HK0.out, HK1.out]
          case measure => simp [intOf]; omega
        · go_wp2_with fail
          go_quiet (fail)
          go_wp2_with fail
          go_ret
          refine ⟨ret_bool ?_, (Drawn.refl w).step _ |>.step _⟩
          rw [eq_comm, decide_eq_false_iff_not]
          intro e
          subst e
          rw [HK0.out] at HK1
          exact huv (Option.some.inj HK1.out)
      · obtain rfl : k = n0 := by omega
        have hx : x0 = x1 := take_eq_of _ _ (fun j hj => hpre j (by omega)) (by omega)
        go_wp2_with fail
        go_ret
        exact ⟨ret_bool (by simp [hx]), _, rfl⟩
  · have hx : decide (x0 = x1) = false := by
      rw [decide_eq_false_iff_not]
      intro e
      subst e
      omega
    rw [hx]
    clear hx
    go_enter Tryz.func12, Tryz.ntmps12
    go_wp2_with fail
    go_ret
    exact ⟨rfl, Drawn.refl _⟩
end Go.Proofs.YtjikjdignhdipaaGreatDoor

namespace Go.Proofs.YtjikjdignhdipaaGreatDoor
open Go.RowKit
set_option linter.unusedSimpArgs false
set_option linter.unusedVariables false

set_option maxRecDepth 100000 in
set_option maxHeartbeats 1000000 in
theorem left_any (g n0 cap : Nat) (bs : List Int) (A1 : Option Addr) (c1 : Nat) (w : World) (hcap : n0 < cap) (hcm : cap ≤ maxLen) (rt : Rd w .u8 (some ⟨g, 0, none⟩) (n0 + 1) (bs ++ [77])) (r1 : Rd w .u8 A1 n0 bs) :
    Calls Tryz.prog 21 #[.slice (some ⟨g, 0, none⟩) n0 cap, .slice A1 n0 c1] w fun e w' => e = .returned (.bool true) ∧ Drawn w w' := by
  have h1 := r1.len
  have b1 := r1.big
  obtain ⟨gg, oo, hg, _, ht⟩ := rt.row (by omega)
  obtain ⟨rfl, rfl⟩ : g = gg ∧ 0 = oo := by injection hg with hg; injection hg with e1 e2 _; exact ⟨e1, e2⟩
  clear hg
  have hlast : w.cell? ⟨g, n0, none⟩ = some (.int .u8 77) := by
    have := ht n0 (by omega)
    rw [Nat.zero_add, List.getElem?_append_right (by omega), h1, Nat.sub_self] at this
    exact this
  have hsl : ∀ W : World, (Instr.slice 31 (.slice (some ⟨g, 0, none⟩) n0 cap) none (some (.int .i64 ((n0 : Int) + 1))) none).run Tryz.prog W = .ok (.slice (some ⟨g, 0, none⟩) (n0 + 1) cap) W := fun W => by
    have := slice_to W (some ⟨g, 0, none⟩) n0 cap (n0 + 1) (by omega)
    rwa [show ((n0 + 1 : Nat) : Int) = (n0 : Int) + 1 by omega] at this
  have hw : IntKind.i64.wrap ((n0 : Int) + 1) = (n0 : Int) + 1 := IntWalk.i64_in _ (by omega)
  have HSL := Lib.hid hsl
  have HLAST := Lib.hid hlast
  clear hsl hlast hcm
  go_enter Tryz.func21, Tryz.ntmps21
  go_wp2_with fail
  go_loopw [5] (fun i wr => ∃ k : Nat, k ≤ n0 ∧ i = .int .i64 k ∧ Drawn w wr) (fun i _ => n0 - (intOf i).toNat)
  case atStart => exact ⟨0, Nat.zero_le _, rfl, Drawn.refl _⟩
  case round =>
    obtain ⟨k, hk, rfl, q, rfl⟩ := hrel
    by_cases hlt : k < n0
    · obtain ⟨b, ob, rfl, _, hb⟩ := r1.row (by omega)
      have hca := ht k (by omega)
      have hcb2 := hb k hlt
      rw [Nat.zero_add, List.getElem?_append_left (by omega)] at hca
      generalize bs[k]?.getD 0 = u at *
      have i0 : (0 : Int) ≤ (k : Int) := by omega
      have i1 : (k : Int) < (n0 : Int) := by omega
      clear ht hb rt r1 hw
      go_wp2_with fail
      go_quiet (fail)
      go_wp2_with fail
      go_roundw
      case rel => exact ⟨k + 1, by omega, by go_num, _, rfl⟩
      case measure => simp [intOf]; omega
    · obtain rfl : k = n0 := by omega
      have hsl := HSL.out
      have hlast := HLAST.out
      have i0 : (0 : Int) ≤ (k : Int) := by omega
      clear ht rt r1
      go_wp2_with fail
      go_ret
      exact ⟨rfl, _, rfl⟩
end Go.Proofs.YtjikjdignhdipaaGreatDoor
