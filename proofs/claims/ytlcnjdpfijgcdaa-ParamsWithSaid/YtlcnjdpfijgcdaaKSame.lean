/- The walks over SameBytes. -/
import Derived.Test.YtlcnjdpfijgcdaaNPure
import Derived.Test.YtlcnjdpfijgcdaaOwn
namespace Go.Proofs.Ytlcnjdpfijgcdaa
open Go.RowKit
set_option linter.unusedSimpArgs false
set_option linter.unusedVariables false

theorem take_eq_of {α : Type} (l m : List α) (h : ∀ j, j < l.length → l[j]? = m[j]?) (hl : l.length = m.length) : l = m := by
  apply List.ext_getElem? 
  intro i
  rcases Nat.lt_or_ge i l.length with h1 | h1
  · exact h i h1
  · rw [List.getElem?_eq_none h1, List.getElem?_eq_none (by omega)]

set_option maxRecDepth 100000 in
set_option maxHeartbeats 1000000 in
theorem same_any (A0 : Option Addr) (n0 c0 : Nat) (x0 : List Int) (A1 : Option Addr) (n1 c1 : Nat) (x1 : List Int) (w : World) (r0 : Rd w .u8 A0 n0 x0) (r1 : Rd w .u8 A1 n1 x1) :
    Calls Try.prog 26 #[.slice A0 n0 c0, .slice A1 n1 c1] w fun e w' => e = .returned (.bool (decide (x0 = x1))) ∧ Drawn w w' := by
  have h0 := r0.len
  have h1 := r1.len
  have b0 := r0.big
  have b1 := r1.big
  by_cases hn : n0 = n1
  · subst hn
    go_enter Try.func26, Try.ntmps26
    go_wp2_with fail
    go_loopw [5] (fun i wr => ∃ k : Nat, k ≤ n0 ∧ i = .int .i64 k ∧ (∀ j, j < k → x0[j]? = x1[j]?) ∧ Drawn w wr) (fun i _ => n0 - (intOf i).toNat)
    case atStart => exact ⟨0, Nat.zero_le _, rfl, fun j hj => absurd hj (by omega), Drawn.refl _⟩
    case round =>
      obtain ⟨k, hk, rfl, hpre, q, rfl⟩ := hrel
      by_cases hlt : k < n0
      · obtain ⟨a, oa, rfl, _, ha⟩ := r0.row (by omega)
        obtain ⟨b, ob, rfl, _, hb⟩ := r1.row (by omega)
        have hca := ha k hlt
        have hcb := hb k hlt
        obtain ⟨u, hu⟩ : ∃ u, x0[k]?.getD 0 = u := ⟨_, rfl⟩
        obtain ⟨v, hv⟩ : ∃ v, x1[k]?.getD 0 = v := ⟨_, rfl⟩
        rw [hu] at hca
        rw [hv] at hcb
        have i0 : (0 : Int) ≤ (k : Int) := by omega
        have i1 : (k : Int) < (n0 : Int) := by omega
        have HPRE := Lib.hid hpre
        have hk0 : x0[k]? = some u := by rw [← hu, List.getElem?_eq_getElem (by omega)]; rfl
        have hk1 : x1[k]? = some v := by rw [← hv, List.getElem?_eq_getElem (by omega)]; rfl
        have HK0 := Lib.hid hk0
        have HK1 := Lib.hid hk1
        clear hpre ha hb hu hv hk0 hk1
        by_cases huv : u = v
        · subst huv
          go_wp2_with fail
          go_quiet (fail)
          go_wp2_with fail
          go_roundw
          case rel =>
            refine ⟨k + 1, by omega, by go_num, ?_, _, rfl⟩
            intro j hj
            rcases Nat.lt_or_ge j k with h | h
            · exact HPRE.out j h
            · obtain rfl : j = k := by omega
              rw [HK0.out, HK1.out]
          case measure => simp [intOf]; omega
        · go_wp2_with fail
          go_quiet (fail)
          go_wp2_with fail
          go_ret
          refine ⟨ret_bool ?_, (Drawn.refl w).step _ |>.step _⟩
          rw [eq_comm, decide_eq_false_iff_not]
          intro e
          subst e
          rw [HK0.out] at HK1
          exact huv (Option.some.inj HK1.out)
      · obtain rfl : k = n0 := by omega
        have hx : x0 = x1 := take_eq_of _ _ (fun j hj => hpre j (by omega)) (by omega)
        go_wp2_with fail
        go_ret
        exact ⟨ret_bool (by simp [hx]), _, rfl⟩
  · have hx : decide (x0 = x1) = false := by
      rw [decide_eq_false_iff_not]
      intro e
      subst e
      omega
    rw [hx]
    clear hx
    go_enter Try.func26, Try.ntmps26
    go_wp2_with fail
    go_ret
    exact ⟨rfl, Drawn.refl _⟩
end Go.Proofs.Ytlcnjdpfijgcdaa
