/- The walks over SameBytes; The walks over SameParam, SameParams: what is the same is told to be. -/
import Derived.Test.YtlcnjdpfijgcdaaZRParamsBodiesBack1
import Derived.Test.YtlcnjdpfijgcdaaZRParamsBodiesBack0
import Derived.Test.YtlcnjdpfijgcdaaZRParamsBodiesBack39
namespace Go.Proofs.Ytlcnjdpfijgcdaa
open Go.RowKit
set_option linter.unusedSimpArgs false
set_option linter.unusedVariables false

theorem take_eq_of {α : Type} (l m : List α) (h : ∀ j, j < l.length → l[j]? = m[j]?) (hl : l.length = m.length) : l = m := by
  apply List.ext_getElem? 
  intro i
  rcases Nat.lt_or_ge i l.length with h1 | h1
  · exact h i h1
  · rw [List.getElem?_eq_none h1, List.getElem?_eq_none (by omega)]

set_option maxRecDepth 100000 in
set_option maxHeartbeats 1000000 in
theorem same_any (A0 : Option Addr) (n0 c0 : Nat) (x0 : List Int) (A1 : Option Addr) (n1 c1 : Nat) (x1 : List Int) (w : World) (r0 : Rd w .u8 A0 n0 x0) (r1 : Rd w .u8 A1 n1 x1) :
    Calls Try.prog 26 #[.slice A0 n0 c0, .slice A1 n1 c1] w fun e w' => e = .returned (.bool (decide (x0 = x1))) ∧ Drawn w w' := by
  have h0 := r0.len
  have h1 := r1.len
  have b0 := r0.big
  have b1 := r1.big
  by_cases hn : n0 = n1
  · subst hn
    go_enter Try.func26, Try.ntmps26
    go_wp2_with fail
    go_loopw [5] (fun i wr => ∃ k : Nat, k ≤ n0 ∧ i = .int .i64 k ∧ (∀ j, j < k → x0[j]? = x1[j]?) ∧ Drawn w wr) (fun i _ => n0 - (intOf i).toNat)
    case atStart => exact ⟨0, Nat.zero_le _, rfl, fun j hj => absurd hj (by omega), Drawn.refl _⟩
    case round =>
      obtain ⟨k, hk, rfl, hpre, q, rfl⟩ := hrel
      by_cases hlt : k < n0
      · obtain ⟨a, oa, rfl, _, ha⟩ := r0.row (by omega)
        obtain ⟨b, ob, rfl, _, hb⟩ := r1.row (by omega)
        have hca := ha k hlt
        have hcb := hb k hlt
        obtain ⟨u, hu⟩ : ∃ u, x0[k]?.getD 0 = u := ⟨_, rfl⟩
        obtain ⟨v, hv⟩ : ∃ v, x1[k]?.getD 0 = v := ⟨_, rfl⟩
        rw [hu] at hca
        rw [hv] at hcb
        have i0 : (0 : Int) ≤ (k : Int) := by omega
        have i1 : (k : Int) < (n0 : Int) := by omega
        have HPRE := Lib.hid hpre
        have hk0 : x0[k]? = some u := by rw [← hu, List.getElem?_eq_getElem (by omega)]; rfl
        have hk1 : x1[k]? = some v := by rw [← hv, List.getElem?_eq_getElem (by omega)]; rfl
        have HK0 := Lib.hid hk0
        have HK1 := Lib.hid hk1
        clear hpre ha hb hu hv hk0 hk1
        by_cases huv : u = v
        · subst huv
          go_wp2_with fail
          go_quiet (fail)
          go_wp2_with fail
          go_roundw
          case rel =>
            refine ⟨k + 1, by omega, by go_num, ?_, _, rfl⟩
            intro j hj
            rcases Nat.lt_or_ge j k with h | h
            · exact HPRE.out j h
            · obtain rfl : j = k := by omega
              rw [HK0.out, HK1.out]
          case measure => simp [intOf]; omega
        · go_wp2_with fail
          go_quiet (fail)
          go_wp2_with fail
          go_ret
          refine ⟨ret_bool ?_, (Drawn.refl w).step _ |>.step _⟩
          rw [eq_comm, decide_eq_false_iff_not]
          intro e
          subst e
          rw [HK0.out] at HK1
          exact huv (Option.some.inj HK1.out)
      · obtain rfl : k = n0 := by omega
        have hx : x0 = x1 := take_eq_of _ _ (fun j hj => hpre j (by omega)) (by omega)
        go_wp2_with fail
        go_ret
        exact ⟨ret_bool (by simp [hx]), _, rfl⟩
  · have hx : decide (x0 = x1) = false := by
      rw [decide_eq_false_iff_not]
      intro e
      subst e
      omega
    rw [hx]
    clear hx
    go_enter Try.func26, Try.ntmps26
    go_wp2_with fail
    go_ret
    exact ⟨rfl, Drawn.refl _⟩
end Go.Proofs.Ytlcnjdpfijgcdaa

namespace Go.Proofs.Ytlcnjdpfijgcdaa
open Go.RowKit
set_option linter.unusedSimpArgs false
set_option linter.unusedVariables false

set_option maxHeartbeats 1000000 in
theorem samep_any (t : Int) (A1 A2 : Option Addr) (n1 c1 n2 c2 : Nat) (body : List Int) (w : World) (r1 : Rd w .u8 A1 n1 body) (r2 : Rd w .u8 A2 n2 body) :
    Calls Try.prog 65 #[.agg #[.int .u16 t, .slice A1 n1 c1], .agg #[.int .u16 t, .slice A2 n2 c2]] w fun e w' => e = .returned (.bool true) ∧ Below w.heap.size w w' := by
  have hB : Below w.heap.size w ((w.alloc (.cells #[.int .u16 t, .slice A1 n1 c1] 69)).alloc (.cells #[.int .u16 t, .slice A2 n2 c2] 69)) := ((Below.refl _ _).alloc (Nat.le_refl _) _).alloc (by simp) _
  have hs := same_any A1 n1 c1 body A2 n2 c2 body _ (r1.below hB) (r2.below hB)
  rw [decide_eq_true rfl] at hs
  have HS := Lib.hid hs
  have HB := Lib.hid hB
  clear hs hB r1 r2
  go_enter Try.func65, Try.ntmps65
  go_wp2_with fail
  refine HS.out.mono ?_; rintro e w1 ⟨rfl, hD⟩
  have hB1 := below_drawn HB.out hD
  go_wp2_with fail
  go_ret
  exact ⟨rfl, hB1⟩

set_option maxRecDepth 100000 in
set_option maxHeartbeats 2000000 in
theorem sameps_any (A1 A2 : Option Addr) (n1 c1 n2 c2 : Nat) (ps : List Piece) (w : World) (p1 : Ps w A1 n1 ps) (p2 : Ps w A2 n2 ps) :
    Calls Try.prog 28 #[.slice A1 n1 c1, .slice A2 n2 c2] w fun e w' => e = .returned (.bool true) ∧ Below w.heap.size w w' := by
  have hn : n1 = n2 := p1.len.symm.trans p2.len
  subst hn
  have hbig := p1.big
  have hl := p1.len
  have HP1 := Lib.hid p1
  have HP2 := Lib.hid p2
  clear p1 p2
  go_enter Try.func28, Try.ntmps28
  go_wp2_with fail
  go_loopw [5] (fun i wr => ∃ k : Nat, k ≤ n1 ∧ i = .int .i64 k ∧ Below w.heap.size w wr) (fun i _ => n1 - (intOf i).toNat)
  case atStart => exact ⟨0, Nat.zero_le _, rfl, Below.refl _ _⟩
  case round =>
    obtain ⟨k, hk, rfl, hB⟩ := hrel
    by_cases hlt : k < n1
    · obtain ⟨b1, o1, rfl, hb1, hc1⟩ := (HP1.out.below hB).row (by omega)
      obtain ⟨b2, o2, rfl, hb2, hc2⟩ := (HP2.out.below hB).row (by omega)
      obtain ⟨t, body, B1, m1, d1, h1, h2, h3, h4, h5, h6, h7⟩ := hc1 k hlt
      obtain ⟨t', body', B2, m2, d2, g1, g2, g3, g4, g5, g6, g7⟩ := hc2 k hlt
      rw [h1] at g1
      simp only [Option.some.injEq, Prod.mk.injEq] at g1
      obtain ⟨rfl, rfl⟩ := g1
      have i0 : (0 : Int) ≤ (k : Int) := by omega
      have i1 : (k : Int) < (n1 : Int) := by omega
      have hs := samep_any t B1 B2 m1 d1 m2 d2 body wr.drew (h5.below (drew_below wr)) (g5.below (drew_below wr))
      have HS := Lib.hid hs
      have HB := Lib.hid hB
      clear hc1 hc2 h1 h2 g2 h5 g5 h6 g6 h7 g7 hs hB hl
      go_wp2_with fail
      go_region_held3 (fun w' => w'.cell? ⟨b1, o1 + k * 2, none⟩ = some (.int .u16 t) ∧ w'.cell? ⟨b1, o1 + k * 2 + 1, none⟩ = some (.slice B1 m1 d1) ∧ w'.cell? ⟨b2, o2 + k * 2, none⟩ = some (.int .u16 t) ∧ w'.cell? ⟨b2, o2 + k * 2 + 1, none⟩ = some (.slice B2 m2 d2))
        (((try dsimp only); refine ⟨?_, ?_, ?_, ?_⟩ <;> (first | assumption | (go_keep; done))))
        (first
          | (go_at_call 65
             refine HS.out.mono ?_; rintro e w3 ⟨rfl, hB3⟩
             have k1 := (hB3.cell (p := ⟨b1, o1 + k * 2, none⟩) hb1).trans h3
             have k2 := (hB3.cell (p := ⟨b1, o1 + k * 2 + 1, none⟩) hb1).trans h4
             have k3 := (hB3.cell (p := ⟨b2, o2 + k * 2, none⟩) hb2).trans g3
             have k4 := (hB3.cell (p := ⟨b2, o2 + k * 2 + 1, none⟩) hb2).trans g4
             have HB3 := Lib.hid hB3
             clear hB3))
      have HB4 := Lib.hid (HB.out.trans (((drew_below wr).trans HB3.out).mono HB.out.size))
      go_wp2_with fail
      go_roundw
      case rel => exact ⟨k + 1, by omega, by go_num, HB4.out⟩
      case measure => simp [intOf]; omega
    · obtain rfl : k = n1 := by omega
      go_wp2_with fail
      go_ret
      exact ⟨rfl, hB⟩
end Go.Proofs.Ytlcnjdpfijgcdaa
