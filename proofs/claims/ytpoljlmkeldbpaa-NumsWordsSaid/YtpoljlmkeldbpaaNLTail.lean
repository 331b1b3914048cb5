/- The law NumsTail. -/
import Derived.Test.YtpoljlmkeldbpaaNAliveW
import Derived.Deep.RegionHeld3
import Derived.Deep.DrawnRows
import Derived.IntWalk
namespace Go.Proofs.Ytpoljlmkeldbpaa
open Go.RowKit
set_option linter.unusedSimpArgs false
set_option linter.unusedVariables false
attribute [local go_sem ↓] Go.wp_at_zero Go.wp_at_succ

theorem pow256_two (k : Nat) : pow256 k = 2 ^ (8 * k) := by
  induction k with
  | zero => rfl
  | succ k ih => rw [pow256, ih, show 8 * (k + 1) = 8 * k + 8 by omega, Int.pow_add]; omega
theorem rd_nil (w : World) (k : IntKind) : Rd w k none 0 [] := ⟨rfl, by omega, by simp, fun h => absurd h (by omega)⟩
/-- Two rows that lie. -/
structure TwoAt (w0 : World) (g1 g2 : Nat) (x1 x2 : List Int) (w : World) : Prop where
  b1 : Blk w g1 5 (x1.map (Value.int .u8))
  b2 : Blk w g2 5 (x2.map (Value.int .u8))
  below : Below w0.heap.size w0 w
section
variable {w0 w w' : World} {g1 g2 : Nat} {x1 x2 : List Int}
theorem TwoAt.drew (h : TwoAt w0 g1 g2 x1 x2 w) : TwoAt w0 g1 g2 x1 x2 w.drew := ⟨h.b1, h.b2, below_drawn h.below ⟨1, rfl⟩⟩
theorem TwoAt.drewN (h : TwoAt w0 g1 g2 x1 x2 w) (n : Nat) : TwoAt w0 g1 g2 x1 x2 (w.drewN n) := ⟨h.b1, h.b2, below_drawn h.below ⟨n, rfl⟩⟩
theorem TwoAt.next (h : TwoAt w0 g1 g2 x1 x2 w) (hB : Below w.heap.size w w') : TwoAt w0 g1 g2 x1 x2 w' := ⟨h.b1.below hB h.b1.lt, h.b2.below hB h.b2.lt, h.below.trans (hB.mono h.below.size)⟩
theorem TwoAt.cell2 (h : TwoAt w0 g1 g2 x1 x2 w) (i : Nat) (hi : i < x2.length) : w.cell? ⟨g2, i, none⟩ = some (.int .u8 (x2[i]?.getD 0)) := h.b2.int_at i hi
end
theorem alive_two {w0 w : World} {g1 g2 : Nat} {x1 x2 : List Int} (h : TwoAt w0 g1 g2 x1 x2 w) (x : Int) (hx : x2[0]?.getD 0 = x) (hl : 0 < x2.length) : Calls Try.prog 8 #[] w fun e w' => e = .returned (.bool true) ∧ w'.cell? ⟨g2, 0, none⟩ = some (.int .u8 x) ∧ TwoAt w0 g1 g2 x1 x2 w' :=
  (alive_true w).mono fun e w' ⟨he, hB⟩ => ⟨he, by rw [← hx]; exact (h.next hB).cell2 0 hl, h.next hB⟩

set_option maxRecDepth 100000 in
set_option maxHeartbeats 1000000 in
theorem tail_at (n a1 : Int) (k : Nat) (w : World) (h0 : 0 ≤ n) (h1 : n ≤ 18446744073709551615) (b0 : 0 ≤ a1) (b1 : a1 ≤ 255) (hk : k ≤ 7) (hm : a1.tmod 8 = k) :
    Calls Try.prog 3 #[.int .u64 n, .int .u8 a1] w fun e w' => e = .returned (.bool true) ∧ Below w.heap.size w w' := by
  have hput1 : ∀ W, Calls Try.prog 7 #[.slice none 0 0, .int .u64 n, .int .i64 k] W (Made W (be n k)) := fun W => by
    have := put_any none 0 0 [] n k W (rd_nil W .u8) (by omega) h0 h1
    rwa [show putMany k = k by unfold putMany; omega, List.nil_append] at this
  have hput2 : ∀ W, Calls Try.prog 7 #[.slice none 0 0, .int .u64 n, .int .i64 ((k : Int) + 1)] W (Made W (be n (k + 1))) := fun W => by
    have := put_any none 0 0 [] n ((k : Int) + 1) W (rd_nil W .u8) (by omega) h0 h1
    rwa [show putMany ((k : Int) + 1) = k + 1 by unfold putMany; omega, List.nil_append] at this
  have H1 := Lib.hid hput1
  have H2 := Lib.hid hput2
  clear hput1 hput2
  go_enter Try.func3, Try.ntmps3
  go_wp2_with fail
  refine (H1.out _).mono ?_
  rintro e w1 ⟨g1, hg1, rfl, hk1, hB1⟩
  rw [be_length]
  go_wp2_with fail
  refine (H2.out _).mono ?_
  rintro e w2 ⟨g2, hg2, rfl, hk2, hB2⟩
  rw [be_length]
  have T : TwoAt w g1 g2 (be n k) (be n (k + 1)) w2 := ⟨hk1.below hB2 hk1.lt, hk2, hB1.trans (hB2.mono hB1.size)⟩
  clear hk1 hk2 hB1 hB2
  have hbe := be_cons k n
  have hx : (be n (k + 1))[0]?.getD 0 = (n / pow256 k) % 256 := by rw [hbe]; rfl
  have hc : w2.cell? ⟨g2, 0, none⟩ = some (.int .u8 ((n / pow256 k) % 256)) := by rw [← hx]; exact T.cell2 0 (by rw [be_length]; omega)
  have hdrop : ((be n (k + 1)).drop 1).take k = be n k := by
    rw [hbe, List.drop_succ_cons, List.drop_zero]; exact List.take_of_length_le (by rw [be_length]; exact Nat.le_refl _)
  have hsame : ∀ W, TwoAt w g1 g2 (be n k) (be n (k + 1)) W → Calls Try.prog 9 #[.slice (some ⟨g1, 0, none⟩) k k, .slice (some ⟨g2, 1, none⟩) k k] W fun e w' => e = .returned (.bool true) ∧ w'.cell? ⟨g2, 0, none⟩ = some (.int .u8 ((n / pow256 k) % 256)) ∧ TwoAt w g1 g2 (be n k) (be n (k + 1)) w' := by
    intro W hT
    refine (same_any _ k k (be n k) _ k k _ W (rd_of_blk hT.b1 (be_byte k n) (be_length k n) (by omega)) ((rd_of_blk hT.b2 (be_byte (k + 1) n) (be_length (k + 1) n) (by omega)).sub 1 k (by omega))).mono ?_
    rintro e w' ⟨rfl, q, rfl⟩
    rw [hdrop]
    exact ⟨by simp, by rw [← hx]; exact (hT.drewN q).cell2 0 (by rw [be_length]; omega), hT.drewN q⟩
  have hal : Calls Try.prog 8 #[] w2.drew fun e w' => e = .returned (.bool true) ∧ w'.cell? ⟨g2, 0, none⟩ = some (.int .u8 ((n / pow256 k) % 256)) ∧ TwoAt w g1 g2 (be n k) (be n (k + 1)) w' := alive_two T.drew _ hx (by rw [be_length]; omega)
  have HA := Lib.hid hal
  have HS := Lib.hid hsame
  clear hal
  have HX := Lib.hid hx
  clear hsame hdrop hbe hx
  have h8 : IntKind.i64.wrap (8 * (k : Int)) = 8 * (k : Int) := IntWalk.i64_in _ (by omega)
  have hT := T
  have hs1 : (1 : Int) ≤ (k : Int) + 1 := by omega
  have hshr : ((n / pow256 k) % 256 == IntKind.u8.wrap (n / 2 ^ (8 * (k : Int)).toNat)) = true := by
    rw [show (8 * (k : Int)).toNat = 8 * k by omega, ← pow256_two, IntKind.wrap_u8]
    simp
  generalize hxx : (n / pow256 k) % 256 = x at *
  clear hxx
  by_cases hk0 : k = 0
  · subst hk0
    have HS0 : Hid (∀ W, TwoAt w g1 g2 (be n 0) (be n (0 + 1)) W → Calls Try.prog 9 #[.slice (some ⟨g1, 0, none⟩) 0 0, .slice (some ⟨g2, 0, none⟩) 0 0] W fun e w' => e = .returned (.bool true) ∧ w'.cell? ⟨g2, 0, none⟩ = some (.int .u8 x) ∧ TwoAt w g1 g2 (be n 0) (be n (0 + 1)) w') := Lib.hid fun W hT => by
      refine (same_any _ 0 0 [] _ 0 0 [] W ⟨rfl, by omega, by simp, fun h => absurd h (by omega)⟩ ⟨rfl, by omega, by simp, fun h => absurd h (by omega)⟩).mono ?_
      rintro e w' ⟨rfl, q, rfl⟩
      have hT' := hT.drewN q
      exact ⟨by simp, by rw [← HX.out]; exact hT'.cell2 0 (by rw [be_length]; omega), hT'⟩
    clear HS HX
    have h80 : IntKind.i64.wrap 0 = 0 := by decide
    have hs0 : (x == IntKind.u8.wrap n) = true := by have h := hshr; rw [show (8 * ((0 : Nat) : Int)).toNat = 0 from rfl, Int.pow_zero, Int.ediv_one] at h; exact h
    clear hshr
    go_wp2_with fail
    go_region_held3 (fun w' => w'.cell? ⟨g2, 0, none⟩ = some (.int .u8 x) ∧ TwoAt w g1 g2 (be n 0) (be n (0 + 1)) w') (((try dsimp only); refine ⟨?_, ?_⟩ <;> (first | assumption | exact TwoAt.drew (by assumption) | (go_keep; done))))
      (first
        | (go_at_call 8; refine HA.out.mono ?_; rintro e w3 ⟨rfl, hc3, T3⟩)
        | (go_at_call 9; refine (HS0.out _ (by assumption)).mono ?_; rintro e w4 ⟨rfl, hc4, T4⟩))
    go_wp2_with fail
    go_ret
    exact ⟨rfl, T4.below⟩
  · clear HX
    go_wp2_with fail
    go_region_held3 (fun w' => w'.cell? ⟨g2, 0, none⟩ = some (.int .u8 x) ∧ TwoAt w g1 g2 (be n k) (be n (k + 1)) w') (((try dsimp only); refine ⟨?_, ?_⟩ <;> (first | assumption | exact TwoAt.drew (by assumption) | (go_keep; done))))
      (first
        | (go_at_call 8; refine HA.out.mono ?_; rintro e w3 ⟨rfl, hc3, T3⟩)
        | (go_at_call 9; refine (HS.out _ (by assumption)).mono ?_; rintro e w4 ⟨rfl, hc4, T4⟩))
    go_wp2_with fail
    go_ret
    exact ⟨rfl, T4.below⟩

theorem numsTail_walk (a0 a1 : Int) (w : World) (w0 : (Lit.int .u64 a0).wf = true) (w1 : (Lit.int .u8 a1).wf = true) :
    Calls Try.prog 3 #[.int .u64 a0, .int .u8 a1] w fun e w' => e = .returned (.bool true) ∧ Below w.heap.size w w' := by
  obtain ⟨h0, h1⟩ := wf_bounds_u64 w0
  obtain ⟨b0, b1⟩ := wf_bounds_u8 w1
  exact tail_at a0 a1 (a1 % 8).toNat w h0 h1 b0 b1 (by omega) (by rw [Int.tmod_eq_emod_of_nonneg b0]; omega)
end Go.Proofs.Ytpoljlmkeldbpaa
