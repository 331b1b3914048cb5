/- WindowsMoved: a window hangs on how far numbers are from one another alone. For every list of numbers, 300 at most, and every shift. -/
import Derived.Test.YtoghekehaiglkaaWPure
import Derived.Test.YtoghekehaiglkaaWAlive
namespace Go.Proofs.Ytoghekehaiglkaa
open Go.RowKit
set_option linter.unusedSimpArgs false
set_option linter.unusedVariables false

/-- What holds of the two windows after k rounds. -/
def MovInv (w0 : World) (bA bB : Nat) (by_ : Int) (k : Nat) (wr : World) : Prop :=
  ∃ cA cB tA tB tk, Win wr bA 1 cA tA tk ∧ Win wr bB 1 cB tB tk ∧ Moved by_ cA cB tA tB ∧ 0 ≤ tk ∧ tk ≤ k ∧ 0 ≤ tA ∧ tA ≤ 4294967296 ∧ Below w0.heap.size w0 wr

set_option maxHeartbeats 1000000 in
theorem windowsMoved_walk (A0 : Option Addr) (n0 c0 : Nat) (x0 : List Int) (a1 : Int) (w : World) (r0 : Rd w .u32 A0 n0 x0) (l0 : n0 ≤ c0) (w1 : (Lit.int .u32 a1).wf = true) :
    Calls Try.prog 8 #[.slice A0 n0 c0, .int .u32 a1] w fun e w' => e = .returned (.bool true) ∧ Below w.heap.size w w' := by
  obtain ⟨y0, y1⟩ := wf_bounds_u32 w1
  clear w1
  have hbig := r0.big
  by_cases hn : 300 < n0
  · go_enter Try.func8, Try.ntmps8
    go_wp2_with fail
    refine (alive_true _).mono ?_; rintro e wa ⟨rfl, Ba⟩
    go_wp2_with fail
    refine (alive_true _).mono ?_; rintro e wb ⟨rfl, Bb⟩
    go_wp2_with fail
    go_ret
    exact ⟨rfl, Ba.trans (Bb.mono Ba.size)⟩
  · go_enter Try.func8, Try.ntmps8
    go_wp2_with fail
    refine (alive_true _).mono ?_; rintro e wa ⟨rfl, Ba⟩
    go_wp2_with fail
    refine (new_made _).mono ?_; rintro e wb ⟨rfl, W1, Bb⟩
    go_wp2_with fail
    refine (new_made _).mono ?_; rintro e wc ⟨rfl, W2, Bc⟩
    have hA : w.heap.size ≤ wa.heap.size := Ba.size
    have hAB : wa.heap.size < wb.heap.size := W1.lt
    have W1' := W1.keep (Keeps.of_below (M := fun _ => False) Bc) (fun h => h)
    have hB0 : Below w.heap.size w wc := (Ba.trans (Bb.mono hA)).trans (Bc.mono (by omega))
    have hI0 : MovInv w wa.heap.size wb.heap.size a1 0 wc := ⟨noCame, noCame, 0, 0, 0, W1', W2, moved_none a1, by omega, by omega, by omega, by omega, hB0⟩
    generalize hbA : wa.heap.size = bA at *
    generalize hbB : wb.heap.size = bB at *
    clear W1 W1' W2 Ba Bb Bc hB0 hbA hbB
    go_wp2_with fail
    go_loopw [7] (fun i wr => ∃ k : Nat, k ≤ n0 ∧ i = .int .i64 k ∧ MovInv w bA bB a1 k wr) (fun i _ => n0 - (intOf i).toNat)
    case atStart => exact ⟨0, Nat.zero_le _, rfl, hI0⟩
    case round =>
      obtain ⟨k, hk, rfl, cA, cB, tA, tB, tk, WA, WB, hM, k0, k1, t0, t1, hB⟩ := hrel
      by_cases hlt : k < n0
      · obtain ⟨b, off, rfl, _, hc⟩ := (r0.below hB).row (by omega)
        have hcell := hc k hlt
        obtain ⟨z0, z1⟩ := wf_bounds_u32 (r0.mem hlt)
        generalize hx : x0[k]?.getD 0 = x at *
        clear hx hc
        have htB := hM.top
        have e1 := moved_fits hM (1 + x) (by omega) y0
        have e2 := moved_taken hM (1 + x) tk (by omega) y0
        have e3 := moved_take hM (1 + x) (by omega) y0
        have e4 : 0 ≤ takeTop cA tA (1 + x) ∧ takeTop cA tA (1 + x) ≤ 4294967296 := by unfold takeTop; split <;> omega
        have e5 : 0 ≤ takeTaken cA tA tk (1 + x) ∧ takeTaken cA tA tk (1 + x) ≤ k + 1 := by unfold takeTaken; split <;> omega
        generalize f1 : fits cA tA (1 + x) = f at *
        generalize f2 : takeTaken cA tA tk (1 + x) = tk' at *
        have s1 := fun W h1 h2 => take_step w W bA cA _ tA _ tk tk' (1 + x) f h1 h2 hA (by omega) (by omega) (by omega) k0 (by omega) f1 rfl rfl f2
        have s2 := fun W h1 h2 => take_step w W bB cB _ tB _ tk tk' (1 + x + a1) f h1 h2 (by omega) (by omega) (by omega) (by omega) k0 (by omega) e1 rfl rfl e2
        have S1 := Lib.hid s1
        have S2 := Lib.hid s2
        clear s1 s2 f1 f2 e1 e2
        have E3 := Lib.hid e3
        have HM := Lib.hid hM
        clear e3 hM
        go_wp2_with fail
        refine (S1.out _ WA hB).mono ?_; rintro e w2 ⟨rfl, WA2, B2, K2⟩
        have WB2 := WB.keep K2 (by omega)
        go_wp2_with fail
        refine (S2.out _ WB2 B2).mono ?_; rintro e w3 ⟨rfl, WB3, B3, K3⟩
        have WA3 := WA2.keep K3 (by omega)
        go_wp2_with fail
        refine (taken_made _ _ _ _ _ WA3).mono ?_; rintro e w4 ⟨rfl, rfl⟩
        go_wp2_with fail
        refine (taken_made _ _ _ _ _ WB3).mono ?_; rintro e w4 ⟨rfl, rfl⟩
        go_wp2_with fail
        go_roundw
        case rel => exact ⟨k + 1, by omega, by go_num, _, _, _, _, _, WA3, WB3, E3.out, e5.1, by omega, e4.1, e4.2, B3⟩
        case measure => simp [intOf]; omega
      · go_wp2_with fail
        go_ret
        exact ⟨rfl, hB⟩
end Go.Proofs.Ytoghekehaiglkaa
