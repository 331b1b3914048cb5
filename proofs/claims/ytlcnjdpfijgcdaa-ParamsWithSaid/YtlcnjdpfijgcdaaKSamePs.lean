/- The walks over SameParam, SameParams: what is the same is told to be. -/
import Derived.Test.YtlcnjdpfijgcdaaKPaGet
import Derived.Test.YtlcnjdpfijgcdaaKSame
namespace Go.Proofs.Ytlcnjdpfijgcdaa
open Go.RowKit
set_option linter.unusedSimpArgs false
set_option linter.unusedVariables false

set_option maxHeartbeats 1000000 in
theorem samep_any (t : Int) (A1 A2 : Option Addr) (n1 c1 n2 c2 : Nat) (body : List Int) (w : World) (r1 : Rd w .u8 A1 n1 body) (r2 : Rd w .u8 A2 n2 body) :
    Calls Try.prog 65 #[.agg #[.int .u16 t, .slice A1 n1 c1], .agg #[.int .u16 t, .slice A2 n2 c2]] w fun e w' => e = .returned (.bool true) ∧ Below w.heap.size w w' := by
  have hB : Below w.heap.size w ((w.alloc (.cells #[.int .u16 t, .slice A1 n1 c1] 69)).alloc (.cells #[.int .u16 t, .slice A2 n2 c2] 69)) := ((Below.refl _ _).alloc (Nat.le_refl _) _).alloc (by simp) _
  have hs := same_any A1 n1 c1 body A2 n2 c2 body _ (r1.below hB) (r2.below hB)
  rw [decide_eq_true rfl] at hs
  have HS := Lib.hid hs
  have HB := Lib.hid hB
  clear hs hB r1 r2
  go_enter Try.func65, Try.ntmps65
  go_wp2_with fail
  refine HS.out.mono ?_; rintro e w1 ⟨rfl, hD⟩
  have hB1 := below_drawn HB.out hD
  go_wp2_with fail
  go_ret
  exact ⟨rfl, hB1⟩

set_option maxRecDepth 100000 in
set_option maxHeartbeats 2000000 in
theorem sameps_any (A1 A2 : Option Addr) (n1 c1 n2 c2 : Nat) (ps : List Piece) (w : World) (p1 : Ps w A1 n1 ps) (p2 : Ps w A2 n2 ps) :
    Calls Try.prog 28 #[.slice A1 n1 c1, .slice A2 n2 c2] w fun e w' => e = .returned (.bool true) ∧ Below w.heap.size w w' := by
  have hn : n1 = n2 := p1.len.symm.trans p2.len
  subst hn
  have hbig := p1.big
  have hl := p1.len
  have HP1 := Lib.hid p1
  have HP2 := Lib.hid p2
  clear p1 p2
  go_enter Try.func28, Try.ntmps28
  go_wp2_with fail
  go_loopw [5] (fun i wr => ∃ k : Nat, k ≤ n1 ∧ i = .int .i64 k ∧ Below w.heap.size w wr) (fun i _ => n1 - (intOf i).toNat)
  case atStart => exact ⟨0, Nat.zero_le _, rfl, Below.refl _ _⟩
  case round =>
    obtain ⟨k, hk, rfl, hB⟩ := hrel
    by_cases hlt : k < n1
    · obtain ⟨b1, o1, rfl, hb1, hc1⟩ := (HP1.out.below hB).row (by omega)
      obtain ⟨b2, o2, rfl, hb2, hc2⟩ := (HP2.out.below hB).row (by omega)
      obtain ⟨t, body, B1, m1, d1, h1, h2, h3, h4, h5, h6, h7⟩ := hc1 k hlt
      obtain ⟨t', body', B2, m2, d2, g1, g2, g3, g4, g5, g6, g7⟩ := hc2 k hlt
      rw [h1] at g1
      simp only [Option.some.injEq, Prod.mk.injEq] at g1
      obtain ⟨rfl, rfl⟩ := g1
      have i0 : (0 : Int) ≤ (k : Int) := by omega
      have i1 : (k : Int) < (n1 : Int) := by omega
      have hs := samep_any t B1 B2 m1 d1 m2 d2 body wr.drew (h5.below (drew_below wr)) (g5.below (drew_below wr))
      have HS := Lib.hid hs
      have HB := Lib.hid hB
      clear hc1 hc2 h1 h2 g2 h5 g5 h6 g6 h7 g7 hs hB hl
      go_wp2_with fail
      go_region_held3 (fun w' => w'.cell? ⟨b1, o1 + k * 2, none⟩ = some (.int .u16 t) ∧ w'.cell? ⟨b1, o1 + k * 2 + 1, none⟩ = some (.slice B1 m1 d1) ∧ w'.cell? ⟨b2, o2 + k * 2, none⟩ = some (.int .u16 t) ∧ w'.cell? ⟨b2, o2 + k * 2 + 1, none⟩ = some (.slice B2 m2 d2))
        (((try dsimp only); refine ⟨?_, ?_, ?_, ?_⟩ <;> (first | assumption | (go_keep; done))))
        (first
          | (go_at_call 65
             refine HS.out.mono ?_; rintro e w3 ⟨rfl, hB3⟩
             have k1 := (hB3.cell (p := ⟨b1, o1 + k * 2, none⟩) hb1).trans h3
             have k2 := (hB3.cell (p := ⟨b1, o1 + k * 2 + 1, none⟩) hb1).trans h4
             have k3 := (hB3.cell (p := ⟨b2, o2 + k * 2, none⟩) hb2).trans g3
             have k4 := (hB3.cell (p := ⟨b2, o2 + k * 2 + 1, none⟩) hb2).trans g4
             have HB3 := Lib.hid hB3
             clear hB3))
      have HB4 := Lib.hid (HB.out.trans (((drew_below wr).trans HB3.out).mono HB.out.size))
      go_wp2_with fail
      go_roundw
      case rel => exact ⟨k + 1, by omega, by go_num, HB4.out⟩
      case measure => simp [intOf]; omega
    · obtain rfl : k = n1 := by omega
      go_wp2_with fail
      go_ret
      exact ⟨rfl, hB⟩
end Go.Proofs.Ytlcnjdpfijgcdaa
