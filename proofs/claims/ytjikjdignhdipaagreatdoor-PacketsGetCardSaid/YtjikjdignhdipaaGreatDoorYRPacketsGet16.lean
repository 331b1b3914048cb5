/- The walk over packets.may; The walk over packets.Check: the check of a packet's bytes. -/
import Derived.Test.YtjikjdignhdipaaGreatDoorYRPacketsGet6
import Derived.Test.YtjikjdignhdipaaGreatDoorYRPacketsGet15
import Derived.Test.YtjikjdignhdipaaGreatDoorYRPacketsGet1
import Derived.Laws.BitsAllLaws
namespace Go.Proofs.YtjikjdignhdipaaGreatDoor
open Go.RowKit
set_option linter.unusedSimpArgs false
set_option linter.unusedVariables false

theorem pkmay_any (k : Int) (w : World) (h0 : 0 ≤ k) : Calls Tryz.prog 24 #[.int .u8 k] w fun e w' => e = .returned (.bool (decide (1 ≤ k ∧ k ≤ 8))) ∧ w = w' := by
  by_cases h : 1 ≤ k ∧ k ≤ 8
  · rw [decide_eq_true h]
    obtain rfl | rfl | rfl | rfl | rfl | rfl | rfl | rfl : k = 1 ∨ k = 2 ∨ k = 3 ∨ k = 4 ∨ k = 5 ∨ k = 6 ∨ k = 7 ∨ k = 8 := by omega
    all_goals
      go_enter Tryz.func24, Tryz.ntmps24
      go_wp2_with fail
      go_ret
      exact ⟨rfl, rfl⟩
  · rw [decide_eq_false h]
    have k1 : k ≠ 1 := by omega
    have k2 : k ≠ 2 := by omega
    have k3 : k ≠ 3 := by omega
    have k4 : k ≠ 4 := by omega
    have k5 : k ≠ 5 := by omega
    have k6 : k ≠ 6 := by omega
    have k7 : k ≠ 7 := by omega
    have k8 : k ≠ 8 := by omega
    clear h
    go_enter Tryz.func24, Tryz.ntmps24
    go_wp2_with fail
    go_ret
    exact ⟨rfl, rfl⟩
end Go.Proofs.YtjikjdignhdipaaGreatDoor

namespace Go.Proofs.YtjikjdignhdipaaGreatDoor
open Go.RowKit
set_option linter.unusedSimpArgs false
set_option linter.unusedVariables false

theorem chkN_snoc : ∀ (l : List Int) (c : Int) (odd : Bool) (n : Int), chkN odd n (l ++ [c]) = fold16 (chkN odd n l + heft (odd != odd_ l.length) c)
  | [], c, odd, n => by simp [chkN, odd_]
  | d :: l, c, odd, n => by
    rw [List.cons_append, chkN, chkN_snoc l c, chkN]
    congr 3
    simp only [List.length_cons, odd_]
    rcases Nat.mod_two_eq_zero_or_one l.length with h | h
    · rw [h, show (l.length + 1) % 2 = 1 by omega]; cases odd <;> rfl
    · rw [h, show (l.length + 1) % 2 = 0 by omega]; cases odd <;> rfl
theorem not16 (n : Int) (h0 : 0 ≤ n) (h1 : n ≤ 65535) : bits .xor .u16 IntKind.u16.max n = 65535 - n := by
  obtain ⟨m, rfl⟩ := Int.eq_ofNat_of_zero_le h0
  have hm : m < 65536 := by omega
  have e : IntKind.u16.max = ((65535 : Nat) : Int) := by decide
  rw [e, u16_xor_nat 65535 m (by omega) hm]
  have h := congrArg BitVec.toNat (BitVec.allOnes_xor (x := BitVec.ofNat 16 m))
  simp only [BitVec.toNat_xor, BitVec.toNat_allOnes, BitVec.toNat_not, BitVec.toNat_ofNat] at h
  rw [Nat.mod_eq_of_lt (by simpa using hm)] at h
  simp only [Nat.reducePow, Nat.add_one_sub_one, Nat.reduceSub] at h
  rw [h]; omega
theorem isB_rd {w : World} {A : Option Addr} {n : Nat} {xs : List Int} (h : Rd w .u8 A n xs) : isB xs := fun x hx => wf_bounds_u8 (h.wf x hx)
theorem isB_take {l : List Int} (h : isB l) (j : Nat) : isB (l.take j) := fun x hx => h x (List.mem_of_mem_take hx)

set_option maxRecDepth 100000 in
set_option maxHeartbeats 1000000 in
theorem check_any (A0 : Option Addr) (n0 c0 : Nat) (bs : List Int) (w : World) (r0 : Rd w .u8 A0 n0 bs) (l0 : n0 ≤ c0) :
    Calls Tryz.prog 19 #[.slice A0 n0 c0] w fun e w' => e = .returned (.int .u16 (chk bs)) ∧ w = w' := by
  have hbig := r0.big
  have hl := r0.len
  have hB := isB_rd r0
  have hand : ∀ x : Int, 0 ≤ x → x ≤ 4294967295 → bits .and .u32 x 65535 = x % 65536 := fun x h0 h1 => by
    rw [u32_and x 65535 h0 (by omega) (by omega) (by omega), show ((65535 : Int)).toNat = 2 ^ 16 - 1 from rfl, Nat.and_two_pow_sub_one_eq_mod]
    omega
  go_enter Tryz.func19, Tryz.ntmps19
  go_wp2_with fail
  go_loop [3, 8] (fun n i => ∃ j : Nat, j ≤ n0 ∧ i = .int .i64 j ∧ n = .int .u32 (chkN false 0 (bs.take j))) (fun _ i => n0 - (intOf i).toNat)
  case atStart => exact ⟨0, by omega, rfl, by simp [chkN]⟩
  case round =>
    obtain ⟨j, hj, rfl, rfl⟩ := hrel
    have hb := chk_bounds (odd := false) (n := 0) (by omega) (by omega) (isB_take hB j)
    by_cases hlt : j < n0
    · obtain ⟨b, off, rfl, _, hc⟩ := r0.row (by omega)
      have hcj := hc j hlt
      have hx : 0 ≤ bs[j]?.getD 0 ∧ bs[j]?.getD 0 ≤ 255 := by rw [List.getElem?_eq_getElem (by omega)]; exact hB _ (List.getElem_mem _)
      have hsn : chkN false 0 (bs.take (j + 1)) = fold16 (chkN false 0 (bs.take j) + heft (odd_ j) (bs[j]?.getD 0)) := by
        have e : bs.take (j + 1) = bs.take j ++ [bs[j]?.getD 0] := by rw [List.take_succ_eq_append_getElem (by omega)]; simp [show j < bs.length by omega]
        rw [e, chkN_snoc]
        simp [show min j bs.length = j by omega]
      generalize bs[j]?.getD 0 = x at *
      generalize chkN false 0 (bs.take j) = n at *
      have i0 : (0 : Int) ≤ (j : Int) := by omega
      have i1 : (j : Int) < (n0 : Int) := by omega
      have HS := Lib.hid hsn
      clear hsn hc
      have hf : ∀ y : Int, 0 ≤ y → y ≤ 65280 → (bits BinOp.and IntKind.u32 (n + y) 65535 + (n + y) / 65536) % 4294967296 = fold16 (n + y) := fun y h0 h1 => by
        rw [hand _ (by omega) (by omega), fold16]; omega
      have HF := Lib.hid hf
      clear hf hand
      rcases Nat.mod_two_eq_zero_or_one j with hp | hp
      · have hm : (j : Int).tmod 2 = 0 := by rw [Int.tmod_eq_emod_of_nonneg (by omega)]; omega
        have ho : odd_ j = false := by unfold odd_; rw [hp]; rfl
        have HO := Lib.hid ho
        clear ho
        go_wp2_with fail
        refine ⟨⟨j + 1, by omega, by go_num, ?_⟩, by simp [intOf]; omega⟩
        rw [HF.out _ (by omega) (by omega), HS.out, HO.out]; rfl
      · have hm : (j : Int).tmod 2 = 1 := by rw [Int.tmod_eq_emod_of_nonneg (by omega)]; omega
        have ho : odd_ j = true := by unfold odd_; rw [hp]; rfl
        have HO := Lib.hid ho
        clear ho
        go_wp2_with fail
        refine ⟨⟨j + 1, by omega, by go_num, ?_⟩, by simp [intOf]; omega⟩
        rw [HF.out _ (by omega) (by omega), HS.out, HO.out]; rfl
    · obtain rfl : j = n0 := by omega
      have hd : chk bs = 65535 - chkN false 0 (bs.take j) := by rw [List.take_of_length_le (by omega)]; rfl
      have HD := Lib.hid hd
      clear hd hand
      generalize chkN false 0 (bs.take j) = n at *
      go_wp2_with fail
      go_ret
      have hn : bits .xor .u16 IntKind.u16.max n = 65535 - n := not16 n hb.1 hb.2
      rw [HD.out]
      exact ⟨congrArg (fun z => Ending.returned (Value.int .u16 z)) hn, rfl⟩
end Go.Proofs.YtjikjdignhdipaaGreatDoor
