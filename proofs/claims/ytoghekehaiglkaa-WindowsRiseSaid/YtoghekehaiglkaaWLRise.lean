/- WindowsRise: numbers that rise all come; one that comes late comes, if it is near enough and did not come. For every list of gaps, 200 at most, and however late. -/
import Derived.Test.YtoghekehaiglkaaWPure
import Derived.Test.YtoghekehaiglkaaWAlive
namespace Go.Proofs.Ytoghekehaiglkaa
open Go.RowKit
set_option linter.unusedSimpArgs false
set_option linter.unusedVariables false

/-- All that stand in a window are at most so great. -/
def UpTo (c : List Int) (m : Int) : Prop := ∀ i : Nat, 0 ≤ c[i]?.getD 0 ∧ c[i]?.getD 0 ≤ m
def RiseInv (w0 : World) (b : Nat) (n : Int) (k : Nat) (wr : World) : Prop :=
  ∃ c, Win wr b 1 c n k ∧ UpTo c n ∧ 0 ≤ n ∧ n ≤ 4294967296 * k ∧ Below w0.heap.size w0 wr
theorem rise_fits {c : List Int} {n m : Int} (h : UpTo c n) (hn : 0 ≤ n) (hm : n < m) : fits c n m = 0 := by
  unfold fits
  have := (h (m % 64).toNat).2
  rw [if_neg (by omega), if_neg (by omega), if_neg (by omega)]
theorem rise_take {c : List Int} {n m : Int} (hl : c.length = 64) (h : UpTo c n) (hn : 0 ≤ n) (hm : n < m) : takeCame c n m = c.set (m % 64).toNat m := by
  unfold takeCame; rw [if_pos (rise_fits h hn hm)]
theorem rise_upto {c : List Int} {n m : Int} (hl : c.length = 64) (h : UpTo c n) (hn : 0 ≤ n) (hm : n < m) : UpTo (c.set (m % 64).toNat m) m := by
  intro i
  rw [getD_set _ _ _ _ (by rw [hl]; exact mod64 m)]
  have := h i
  split <;> omega
/-- One that comes late. -/
theorem rise_late {c : List Int} {n m x : Int} (hl : c.length = 64) (h : UpTo c n) (hn : 0 ≤ n) (hm : n < m) (h0 : 0 < x) (h1 : x < m) :
    (64 ≤ m - x → fits (c.set (m % 64).toNat m) m x = 13) ∧ (m - x < 64 → n < x → fits (c.set (m % 64).toNat m) m x = 0) := by
  unfold fits
  rw [getD_set _ _ _ _ (by rw [hl]; exact mod64 m)]
  have := (h (x % 64).toNat).2
  refine ⟨fun ha => ?_, fun ha hb => ?_⟩
  · rw [if_neg (by omega), if_pos (by omega)]
  · rw [if_neg (by omega), if_neg (by omega)]
    split <;> rw [if_neg (by omega)]

set_option maxRecDepth 100000 in
set_option maxHeartbeats 1000000 in
theorem windowsRise_walk (A0 : Option Addr) (n0 c0 : Nat) (x0 : List Int) (a1 : Int) (w : World) (r0 : Rd w .u32 A0 n0 x0) (l0 : n0 ≤ c0) (w1 : (Lit.int .u8 a1).wf = true) :
    Calls Try.prog 6 #[.slice A0 n0 c0, .int .u8 a1] w fun e w' => e = .returned (.bool true) ∧ Below w.heap.size w w' := by
  obtain ⟨y0, y1⟩ := wf_bounds_u8 w1
  clear w1
  have hbig := r0.big
  by_cases hn : 200 < n0
  · go_enter Try.func6, Try.ntmps6
    go_wp2_with fail
    refine (alive_true _).mono ?_; rintro e wa ⟨rfl, Ba⟩
    go_wp2_with fail
    refine (alive_true _).mono ?_; rintro e wb ⟨rfl, Bb⟩
    go_wp2_with fail
    go_ret
    exact ⟨rfl, Ba.trans (Bb.mono Ba.size)⟩
  · go_enter Try.func6, Try.ntmps6
    go_wp2_with fail
    refine (alive_true _).mono ?_; rintro e wa ⟨rfl, Ba⟩
    go_wp2_with fail
    refine (new_made _).mono ?_; rintro e wb ⟨rfl, W1, Bb⟩
    have hA : w.heap.size ≤ wa.heap.size := Ba.size
    have hB0 : Below w.heap.size w wb := Ba.trans (Bb.mono hA)
    have hI0 : RiseInv w wa.heap.size 0 0 wb := ⟨noCame, W1, fun i => by rw [noCame_at]; omega, by omega, by omega, hB0⟩
    generalize hbA : wa.heap.size = bA at *
    clear W1 Ba Bb hB0 hbA
    go_wp2_with fail
    go_loopw [6, 7] (fun n i wr => ∃ (k : Nat) (m : Int), k ≤ n0 ∧ i = .int .i64 k ∧ n = .int .u64 m ∧ RiseInv w bA m k wr) (fun _ i _ => n0 - (intOf i).toNat)
    case atStart => exact ⟨0, 0, Nat.zero_le _, rfl, rfl, hI0⟩
    case round =>
      obtain ⟨k, m, hk, rfl, rfl, c, W, hU, m0, m1, hB⟩ := hrel
      by_cases hlt : k < n0
      · obtain ⟨b, off, rfl, _, hc⟩ := (r0.below hB).row (by omega)
        have hcell := hc k hlt
        obtain ⟨z0, z1⟩ := wf_bounds_u32 (r0.mem hlt)
        generalize hx : x0[k]?.getD 0 = x at *
        clear hx hc
        have hl := W.len
        have q1 := rise_fits hU m0 (show m < m + 1 + x by omega)
        have q2 := rise_take hl hU m0 (show m < m + 1 + x by omega)
        have q3 : takeTop c m (m + 1 + x) = m + 1 + x := by unfold takeTop; rw [if_pos q1]; omega
        have q4 : takeTaken c m k (m + 1 + x) = k + 1 := by unfold takeTaken; rw [if_pos q1]
        have q5 := rise_upto hl hU m0 (show m < m + 1 + x by omega)
        have s1 := fun W' h1 h2 => take_step w W' bA c _ m (m + 1 + x) k (k + 1) (m + 1 + x) 0 h1 h2 hA (by omega) (by omega) (by omega) (by omega) (by omega) q1 q2 q3 q4
        have S1 := Lib.hid s1
        have late := fun y h0 h1 => rise_late (x := y) hl hU m0 (show m < m + 1 + x by omega) h0 h1
        have LATE := Lib.hid late
        have Q5 := Lib.hid q5
        clear s1 q1 q2 q3 q4 q5 late hl
        have b0 : 0 ≤ a1 % 100 := by omega
        have b1 : a1 % 100 < 100 := by omega
        go_wp2_with fail
        refine (S1.out _ W hB).mono ?_; rintro e w2 ⟨rfl, W2, B2, K2⟩
        go_wp2_with fail
        refine (top_made _ _ _ _ _ W2).mono ?_; rintro e w4 ⟨rfl, rfl⟩
        go_wp2_with fail
        refine (taken_made _ _ _ _ _ W2).mono ?_; rintro e w4 ⟨rfl, rfl⟩
        go_wp2_with fail
        · exact ⟨⟨k + 1, _, by omega, by go_num, rfl, _, W2, Q5.out, by omega, by omega, B2⟩, by simp [intOf]; omega⟩
        · exact ⟨⟨k + 1, _, by omega, by go_num, rfl, _, W2, Q5.out, by omega, by omega, B2⟩, by simp [intOf]; omega⟩
        · have hlate := LATE.out (m + 1 + x - a1 % 100) (by omega) (by omega)
          have hneq : m + 1 + x - a1 % 100 ≠ m := by
            have h9 : (m + 1 + x - a1 % 100 == m) = false := by simp_all
            simpa using h9
          have hfit := fits_made w2 bA _ (m + 1 + x) (k + 1) (m + 1 + x - a1 % 100) W2 (by omega) (by omega) (by omega)
          generalize hr : fits (c.set ((m + 1 + x) % 64).toNat (m + 1 + x)) (m + 1 + x) (m + 1 + x - a1 % 100) = r at *
          have HFIT := Lib.hid hfit
          clear hfit hr
          by_cases g1 : 64 ≤ a1 % 100
          · obtain rfl : r = 13 := hlate.1 (by omega)
            clear hlate
            refine (HFIT.out).mono ?_; rintro e w4 ⟨rfl, rfl⟩
            go_wp2_with fail
            exact ⟨⟨k + 1, _, by omega, by go_num, rfl, _, W2, Q5.out, by omega, by omega, B2⟩, by simp [intOf]; omega⟩
          · by_cases g2 : m < m + 1 + x - a1 % 100
            · obtain rfl : r = 0 := hlate.2 (by omega) (by omega)
              clear hlate
              refine (HFIT.out).mono ?_; rintro e w4 ⟨rfl, rfl⟩
              go_wp2_with fail
              exact ⟨⟨k + 1, _, by omega, by go_num, rfl, _, W2, Q5.out, by omega, by omega, B2⟩, by simp [intOf]; omega⟩
            · clear hlate
              refine (HFIT.out).mono ?_; rintro e w4 ⟨rfl, rfl⟩
              go_wp2_with fail
              exact ⟨⟨k + 1, _, by omega, by go_num, rfl, _, W2, Q5.out, by omega, by omega, B2⟩, by simp [intOf]; omega⟩
        · exact ⟨⟨k + 1, _, by omega, by go_num, rfl, _, W2, Q5.out, by omega, by omega, B2⟩, by simp [intOf]; omega⟩
      · go_wp2_with fail
        go_ret
        exact ⟨rfl, hB⟩
end Go.Proofs.Ytoghekehaiglkaa
