/- The law NumsSplit. -/
import Derived.Test.YtpoljlmkeldbpaaNLTail
namespace Go.Proofs.Ytpoljlmkeldbpaa
open Go.RowKit
set_option linter.unusedSimpArgs false
set_option linter.unusedVariables false

/-- A tail of a slice, wherever it begins. -/
theorem Rd.tail {w : World} {kd : IntKind} {A : Option Addr} {n : Nat} {xs : List Int} (h : Rd w kd A n xs) (k c : Nat) (hk : k ≤ n) (hc : n ≤ c) (b off : Nat) (hA : A = some ⟨b, off, none⟩) :
    Rd w kd (some (if c = k then ⟨b, off, none⟩ else ⟨b, off + k, none⟩)) (n - k) (xs.drop k) := by
  subst hA
  by_cases hck : c = k
  · obtain rfl : n = k := by omega
    refine ⟨by simp [h.len], by omega, fun x hx => h.wf x (List.mem_of_mem_drop hx), fun h0 => absurd h0 (by omega)⟩
  · rw [if_neg hck]
    have := h.sub k (n - k) (by omega)
    rwa [List.take_of_length_le (by simp [h.len])] at this

theorem told_split (l : List Int) (k m : Nat) (hk : k ≤ m) (hm : m ≤ l.length) : told (l.take m) = told (l.take k) * pow256 (m - k) + told ((l.drop k).take (m - k)) := by
  have : l.take m = l.take k ++ (l.drop k).take (m - k) := by
    rw [show m = k + (m - k) by omega, List.take_add]
    simp
  rw [this, told_append]
  congr 2
  rw [List.length_take, List.length_drop, Nat.min_eq_left (by omega)]
theorem told9 (l : List Int) (h : ∀ x ∈ l, 0 ≤ x ∧ x ≤ 255) (hl : l.length ≤ 8) : 0 ≤ told l ∧ told l ≤ 18446744073709551615 := by
  have h1 := told_bounds l h
  have h2 : pow256 l.length ≤ 18446744073709551616 := by
    rcases l with _ | ⟨_, _ | ⟨_, _ | ⟨_, _ | ⟨_, _ | ⟨_, _ | ⟨_, _ | ⟨_, _ | ⟨_, _ | ⟨_, l⟩⟩⟩⟩⟩⟩⟩⟩⟩ <;> simp [pow256] at hl ⊢
  omega

set_option maxRecDepth 100000 in
set_option maxHeartbeats 1000000 in
theorem split_at (A0 : Option Addr) (n0 c0 : Nat) (bs : List Int) (a1 a2 : Int) (m k : Nat) (w : World) (r0 : Rd w .u8 A0 n0 bs) (l0 : n0 ≤ c0) (e0 : A0 = none → c0 = 0) (q0 : 0 < c0 → ∃ b off, A0 = some ⟨b, off, none⟩) (m0 : c0 ≤ 140737488351232)
    (b0 : 0 ≤ a1) (b1 : a1 ≤ 255) (d0 : 0 ≤ a2) (d1 : a2 ≤ 255) (hm8 : m ≤ 8) (hkm : k ≤ m) (hm : a1.tmod 9 = m) (hk : a2.tmod ((m : Int) + 1) = k) :
    Calls Try.prog 5 #[.slice A0 n0 c0, .int .u8 a1, .int .u8 a2] w fun e w' => e = .returned (.bool true) ∧ Below w.heap.size w w' := by
  have hbig := r0.big
  have hget : ∀ W, Below w.heap.size w W → Calls Try.prog 13 #[.slice A0 n0 c0, .int .i64 m] W fun e w' => e = .returned (.tuple #[.int .u64 (getN bs n0 m), .int .i64 (getE n0 m)]) ∧ Below W.heap.size W w' := fun W hW => get_any A0 n0 c0 bs m W (r0.below hW) l0
  have hm1 : ((m : Int) + 1 == 0) = false := by rw [beq_eq_false_iff_ne]; omega
  by_cases hs : n0 < m
  · have x1 : getE n0 m = 5 := by unfold getE; rw [if_neg (by omega), if_pos (by omega)]
    have x2 : getN bs n0 m = 0 := by unfold getN; rw [x1]; rfl
    rw [x1, x2] at hget
    have HG := Lib.hid hget
    clear hget x1 x2
    go_enter Try.func5, Try.ntmps5
    go_wp2_with fail
    refine (HG.out _ (Below.refl _ _)).mono ?_
    rintro e w1 ⟨rfl, hB1⟩
    go_wp2_with fail
    refine (alive_true _).mono ?_
    rintro e w2 ⟨rfl, hB2⟩
    go_wp2_with fail
    go_ret
    exact ⟨rfl, hB1.trans (hB2.mono hB1.size)⟩
  · have x1 : getE n0 m = 0 := by unfold getE; rw [if_neg (by omega), if_neg (by omega)]
    have x2 : getN bs n0 m = told (bs.take m) := by unfold getN; rw [x1]; rfl
    rw [x1, x2] at hget
    have hget1 : ∀ W, Below w.heap.size w W → Calls Try.prog 13 #[.slice A0 n0 c0, .int .i64 k] W fun e w' => e = .returned (.tuple #[.int .u64 (told (bs.take k)), .int .i64 0]) ∧ Below W.heap.size W w' := fun W hW => by
      have := get_any A0 n0 c0 bs k W (r0.below hW) l0
      have y1 : getE n0 k = 0 := by unfold getE; rw [if_neg (by omega), if_neg (by omega)]
      have y2 : getN bs n0 k = told (bs.take k) := by unfold getN; rw [y1]; rfl
      rwa [y1, y2] at this
    have hget2 : ∀ (A : Option Addr) W, Rd W .u8 A (n0 - k) (bs.drop k) → Calls Try.prog 13 #[.slice A (n0 - k) (c0 - k), .int .i64 ((m : Int) - k)] W fun e w' => e = .returned (.tuple #[.int .u64 (told ((bs.drop k).take (m - k))), .int .i64 0]) ∧ Below W.heap.size W w' := fun A W r => by
      have := get_any A (n0 - k) (c0 - k) (bs.drop k) ((m - k : Nat) : Int) W r (by omega)
      have y1 : getE (n0 - k) ((m - k : Nat) : Int) = 0 := by unfold getE; rw [if_neg (by omega), if_neg (by omega)]
      have y2 : getN (bs.drop k) (n0 - k) ((m - k : Nat) : Int) = told ((bs.drop k).take (m - k)) := by unfold getN; rw [y1]; rfl
      rwa [y1, y2, show ((m - k : Nat) : Int) = (m : Int) - k by omega] at this
    have hby := rd_bytes r0
    have hts := told_split bs k m hkm (by rw [r0.len]; omega)
    have hN := told9 (bs.take m) (fun x hx => hby x (List.mem_of_mem_take hx)) (by simp; omega)
    have hH := told9 (bs.take k) (fun x hx => hby x (List.mem_of_mem_take hx)) (by simp; omega)
    have hL := told9 ((bs.drop k).take (m - k)) (fun x hx => hby x (List.mem_of_mem_drop (List.mem_of_mem_take hx))) (by simp; omega)
    have h88 : ¬ m - k < 8 → told (bs.take k) = 0 := fun h => by rw [show k = 0 by omega]; rfl
    have hpow := pow256_two (m - k)
    have hpos := pow256_pos (m - k)
    obtain ⟨d, hd⟩ : ∃ d, m - k = d := ⟨_, rfl⟩
    have hdi : (m : Int) - (k : Int) = (d : Int) := by omega
    rw [hd] at h88 hts hpow hpos hL hget2
    rw [hdi] at hget2
    have hLz : d = 0 → told ((bs.drop k).take d) = 0 := fun h => by rw [h]; rfl
    have hts0 := hts
    generalize told (bs.take m) = N at *
    generalize told (bs.take k) = H at *
    generalize told ((bs.drop k).take d) = L at *
    obtain ⟨hN0, hN1⟩ := hN
    obtain ⟨hH0, hH1⟩ := hH
    obtain ⟨hL0, hL1⟩ := hL
    have hHP0 : 0 ≤ H * pow256 d := Int.mul_nonneg hH0 (Int.le_of_lt hpos)
    have hHP1 : H * pow256 d ≤ 18446744073709551615 := by omega
    have hsh : d < 8 → IntKind.u64.wrap (H * 2 ^ (8 * d)) = H * pow256 d := fun _ => by rw [← hpow]; exact IntWalk.u64_in _ (by omega)
    have H0 := Lib.hid hget
    have H1 := Lib.hid hget1
    have H2 := Lib.hid hget2
    have HTS := Lib.hid hts
    have HR := Lib.hid r0
    clear hget hget1 hget2 hts hpow hpos
    have HQ := Lib.hid q0
    have HE := Lib.hid e0
    clear q0 e0
    by_cases hck : c0 = k
    · obtain rfl : n0 = k := by omega
      subst hck
      obtain rfl : m = c0 := by omega
      obtain rfl : d = 0 := by omega
      have hgz : ∀ (A : Option Addr) W, Calls Try.prog 13 #[.slice A 0 0, .int .i64 0] W fun e w' => e = .returned (.tuple #[.int .u64 0, .int .i64 0]) ∧ Below W.heap.size W w' := fun A W => by
        have := get_any A 0 0 [] 0 W ⟨rfl, by omega, by simp, fun h => absurd h (by omega)⟩ (by omega)
        rwa [show getE 0 0 = 0 by decide, show getN [] 0 0 = 0 by decide] at this
      have H3 := Lib.hid hgz
      have hL : L = 0 := hLz rfl
      have hpz : H * pow256 0 = H := by simp [pow256]
      rw [hL, hpz] at hts0
      have hNH : N = H := by omega
      subst hNH
      clear hgz H2 HTS hL hpz hsh hts0 HQ
      go_enter Try.func5, Try.ntmps5
      go_wp2_with fail
      refine (H0.out _ (Below.refl _ _)).mono ?_
      rintro e w1 ⟨rfl, hB1⟩
      go_wp2_with fail
      refine (H1.out _ hB1).mono ?_
      rintro e w2 ⟨rfl, hB2⟩
      have hB12 := hB1.trans (hB2.mono hB1.size)
      go_wp2_with fail
      refine (H3.out _ _).mono ?_
      rintro e w3 ⟨rfl, hB3⟩
      have hB13 := hB12.trans (hB3.mono hB12.size)
      go_wp2_with fail
      refine (alive_true _).mono ?_
      rintro e w4 ⟨rfl, hB4⟩
      have hB14 := hB13.trans (hB4.mono hB13.size)
      go_wp2_with fail
      go_ret
      exact ⟨rfl, hB14⟩
    · obtain ⟨b, off, rfl⟩ := HQ.out (by omega)
      have HT := Lib.hid (fun W (hW : Below w.heap.size w W) => by have := (HR.out.below hW).tail k c0 (by omega) l0 b off rfl; rwa [if_neg hck] at this)
      by_cases h8 : d < 8
      · have hsh' := hsh h8
        generalize H * pow256 d = X at *
        subst hts0
        clear hsh HTS h88
        go_enter Try.func5, Try.ntmps5
        go_wp2_with fail
        refine (H0.out _ (Below.refl _ _)).mono ?_
        rintro e w1 ⟨rfl, hB1⟩
        go_wp2_with fail
        refine (H1.out _ hB1).mono ?_
        rintro e w2 ⟨rfl, hB2⟩
        have hB12 := hB1.trans (hB2.mono hB1.size)
        go_wp2_with fail
        refine (H2.out _ _ (HT.out _ hB12)).mono ?_
        rintro e w3 ⟨rfl, hB3⟩
        have hB13 := hB12.trans (hB3.mono hB12.size)
        go_wp2_with fail
        simp only [hsh']
        refine (alive_true _).mono ?_
        rintro e w4 ⟨rfl, hB4⟩
        have hB14 := hB13.trans (hB4.mono hB13.size)
        go_wp2_with fail
        go_ret
        exact ⟨rfl, hB14⟩
      · have hH := h88 h8
        subst hH
        rw [Int.zero_mul, Int.zero_add] at hts0
        subst hts0
        clear hsh h88 HTS
        go_enter Try.func5, Try.ntmps5
        go_wp2_with fail
        refine (H0.out _ (Below.refl _ _)).mono ?_
        rintro e w1 ⟨rfl, hB1⟩
        go_wp2_with fail
        refine (H1.out _ hB1).mono ?_
        rintro e w2 ⟨rfl, hB2⟩
        have hB12 := hB1.trans (hB2.mono hB1.size)
        go_wp2_with fail
        refine (H2.out _ _ (HT.out _ hB12)).mono ?_
        rintro e w3 ⟨rfl, hB3⟩
        have hB13 := hB12.trans (hB3.mono hB12.size)
        go_wp2_with fail
        refine (alive_true _).mono ?_
        rintro e w4 ⟨rfl, hB4⟩
        have hB14 := hB13.trans (hB4.mono hB13.size)
        go_wp2_with fail
        go_ret
        exact ⟨rfl, hB14⟩

theorem numsSplit_walk (A0 : Option Addr) (n0 c0 : Nat) (x0 : List Int) (a1 a2 : Int) (w : World) (r0 : Rd w .u8 A0 n0 x0) (l0 : n0 ≤ c0) (e0 : A0 = none → c0 = 0) (m0 : c0 ≤ 140737488351232) (q0 : 0 < c0 → ∃ b off, A0 = some ⟨b, off, none⟩)
    (w1 : (Lit.int .u8 a1).wf = true) (w2 : (Lit.int .u8 a2).wf = true) :
    Calls Try.prog 5 #[.slice A0 n0 c0, .int .u8 a1, .int .u8 a2] w fun e w' => e = .returned (.bool true) ∧ Below w.heap.size w w' := by
  obtain ⟨b0, b1⟩ := wf_bounds_u8 w1
  obtain ⟨d0, d1⟩ := wf_bounds_u8 w2
  have hm : a1 % 9 < 9 := Int.emod_lt_of_pos _ (by omega)
  have hm0 : 0 ≤ a1 % 9 := Int.emod_nonneg _ (by omega)
  have hk : a2 % (a1 % 9 + 1) < a1 % 9 + 1 := Int.emod_lt_of_pos _ (by omega)
  have hk0 : 0 ≤ a2 % (a1 % 9 + 1) := Int.emod_nonneg _ (by omega)
  refine split_at A0 n0 c0 x0 a1 a2 (a1 % 9).toNat (a2 % (a1 % 9 + 1)).toNat w r0 l0 e0 q0 m0 b0 b1 d0 d1 (by omega) (by omega) (by rw [Int.tmod_eq_emod_of_nonneg b0]; omega) ?_
  rw [Int.tmod_eq_emod_of_nonneg d0, Int.toNat_of_nonneg hm0, Int.toNat_of_nonneg hk0]
end Go.Proofs.Ytpoljlmkeldbpaa
