/- The walks over math/bits.Len64, Len: how many bits there are; The walks over slices.nextPowerOfTwo, xorshift's Next, breakPatternsOrdered at spots. -/
import Derived.Test.YtgecfcdafbedaaaGreatZRParamsBodies2
import Derived.Deep.CutBlock
import Derived.Test.YtgecfcdafbedaaaGreatZRParamsBodies3
namespace Go.Proofs.YtgecfcdafbedaaaGreat
open Go.RowKit Go.Shelf
set_option linter.unusedSimpArgs false
set_option linter.unusedVariables false

def len8T : Array UInt8 := #[0, 1, 2, 2, 3, 3, 3, 3, 4, 4, 4, 4, 4, 4, 4, 4, 5, 5, 5, 5, 5, 5, 5, 5, 5, 5, 5, 5, 5, 5, 5, 5, 6, 6, 6, 6, 6, 6, 6, 6, 6, 6, 6, 6, 6, 6, 6, 6, 6, 6, 6, 6, 6, 6, 6, 6, 6, 6, 6, 6, 6, 6, 6, 6, 7, 7, 7, 7, 7, 7, 7, 7, 7, 7, 7, 7, 7, 7, 7, 7, 7, 7, 7, 7, 7, 7, 7, 7, 7, 7, 7, 7, 7, 7, 7, 7, 7, 7, 7, 7, 7, 7, 7, 7, 7, 7, 7, 7, 7, 7, 7, 7, 7, 7, 7, 7, 7, 7, 7, 7, 7, 7, 7, 7, 7, 7, 7, 7, 8, 8, 8, 8, 8, 8, 8, 8, 8, 8, 8, 8, 8, 8, 8, 8, 8, 8, 8, 8, 8, 8, 8, 8, 8, 8, 8, 8, 8, 8, 8, 8, 8, 8, 8, 8, 8, 8, 8, 8, 8, 8, 8, 8, 8, 8, 8, 8, 8, 8, 8, 8, 8, 8, 8, 8, 8, 8, 8, 8, 8, 8, 8, 8, 8, 8, 8, 8, 8, 8, 8, 8, 8, 8, 8, 8, 8, 8, 8, 8, 8, 8, 8, 8, 8, 8, 8, 8, 8, 8, 8, 8, 8, 8, 8, 8, 8, 8, 8, 8, 8, 8, 8, 8, 8, 8, 8, 8, 8, 8, 8, 8, 8, 8, 8, 8, 8, 8, 8, 8, 8, 8, 8, 8, 8, 8, 8, 8]
theorem len8_ok : ∀ y : Fin 256, (len8T[y.val]!).toNat ≤ 8 ∧ y.val < 2 ^ (len8T[y.val]!).toNat ∧ (y.val = 0 ∨ 2 ^ (len8T[y.val]!).toNat ≤ 2 * y.val) := by decide +kernel
/-- What Len tells. -/
def IsLen (x L : Nat) : Prop := L ≤ 64 ∧ x < 2 ^ L ∧ (x = 0 ∨ 2 ^ L ≤ 2 * x)
theorem isLen_up {x y s : Nat} {t : Nat} (hs : s ≤ 56) (hy : x / 2 ^ s = y) (hy0 : y ≠ 0) (h1 : t ≤ 8) (h2 : y < 2 ^ t) (h3 : y = 0 ∨ 2 ^ t ≤ 2 * y) : IsLen x (s + t) := by
  have hp : 0 < 2 ^ s := Nat.pow_pos (by omega)
  have hx : x < (y + 1) * 2 ^ s := by
    rw [← hy]
    have := Nat.lt_mul_div_succ x hp
    rwa [Nat.mul_comm] at this
  have hx2 : y * 2 ^ s ≤ x := by rw [← hy]; exact Nat.div_mul_le_self _ _
  refine ⟨by omega, ?_, .inr ?_⟩
  · rw [Nat.pow_add, Nat.mul_comm]
    exact Nat.lt_of_lt_of_le hx (Nat.mul_le_mul_right _ (by omega))
  · rcases h3 with h3 | h3
    · exact absurd h3 hy0
    · rw [Nat.pow_add, Nat.mul_comm]
      have : 2 ^ t * 2 ^ s ≤ 2 * y * 2 ^ s := Nat.mul_le_mul_right _ h3
      rw [Nat.mul_assoc] at this
      omega
theorem tab_at (y : Nat) (h : y < ((⟨len8T⟩ : ByteArray)).size) : ((⟨len8T⟩ : ByteArray)[y]'h).toNat = (len8T[y]!).toNat := by
  have h2 : y < len8T.size := h
  rw [getElem!_pos len8T y h2]
  rfl
set_option maxRecDepth 100000 in
set_option maxHeartbeats 4000000 in
theorem len64_a (x : Nat) (w : World) (hlo : 0 ≤ x) (hx : x < 256) :
    Calls Tryz.prog 98 #[.int .u64 (x : Int)] w fun e w' => ∃ L : Nat, e = .returned (.int .i64 (L : Int)) ∧ IsLen x L ∧ w = w' := by
  have c32 : ¬ (4294967296 : Int) ≤ (x : Int) := by omega
  have c16 : ¬ (65536 : Int) ≤ (x : Int) := by omega
  have c8 : ¬ (256 : Int) ≤ (x : Int) := by omega
  have hy : x < 256 := by omega
  have hyi : (x : Int) < 256 := by omega
  have w1 : IntKind.u8.wrap (x : Int) = (x : Int) := IntWalk.u8_in _ (by omega)
  obtain ⟨g1, g2, g3⟩ := len8_ok ⟨x, hy⟩
  obtain ⟨t, ht⟩ : ∃ t, (len8T[x]!).toNat = t := ⟨_, rfl⟩
  simp only at g1 g2 g3
  rw [ht] at g1 g2 g3
  have HT := Lib.hid ht
  have HG := Lib.hid (show IsLen x (0 + t) from ⟨by omega, by rw [Nat.zero_add]; exact g2, by rw [Nat.zero_add]; exact g3⟩)
  clear ht g2 g3
  go_enter Tryz.func98, Tryz.ntmps98
  go_wp2_with fail
  go_ret
  have hfin : ∀ h, wrap64 (wrap64 (((((⟨len8T⟩ : ByteArray)[x]'h).toNat : Nat)) : Int)) = ((0 + t : Nat) : Int) := fun h => by
    rw [tab_at, HT.out]
    unfold wrap64
    omega
  exact ⟨0 + t, ret_int (hfin _), HG.out, rfl⟩
set_option maxRecDepth 100000 in
set_option maxHeartbeats 4000000 in
theorem len64_b (x : Nat) (w : World) (hlo : 256 ≤ x) (hx : x < 65536) :
    Calls Tryz.prog 98 #[.int .u64 (x : Int)] w fun e w' => ∃ L : Nat, e = .returned (.int .i64 (L : Int)) ∧ IsLen x L ∧ w = w' := by
  have c32 : ¬ (4294967296 : Int) ≤ (x : Int) := by omega
  have c16 : ¬ (65536 : Int) ≤ (x : Int) := by omega
  obtain ⟨y1, hy1⟩ : ∃ y, x / 256 = y := ⟨_, rfl⟩
  have c8 : (256 : Int) ≤ (x : Int) := by omega
  have e8 : (x : Int) / 256 = (y1 : Int) := by omega
  have hy : y1 < 256 := by omega
  have hyi : (y1 : Int) < 256 := by omega
  have w1 : IntKind.u8.wrap (y1 : Int) = (y1 : Int) := IntWalk.u8_in _ (by omega)
  obtain ⟨g1, g2, g3⟩ := len8_ok ⟨y1, hy⟩
  obtain ⟨t, ht⟩ : ∃ t, (len8T[y1]!).toNat = t := ⟨_, rfl⟩
  simp only at g1 g2 g3
  rw [ht] at g1 g2 g3
  have HT := Lib.hid ht
  have HG := Lib.hid (show IsLen x (8 + t) from isLen_up (y := y1) (by omega) (by omega) (by omega) g1 g2 g3)
  clear ht g2 g3 hy1 hlo hx
  go_enter Tryz.func98, Tryz.ntmps98
  go_wp2_with fail
  go_ret
  have hfin : ∀ h, wrap64 (8 + wrap64 (((((⟨len8T⟩ : ByteArray)[y1]'h).toNat : Nat)) : Int)) = ((8 + t : Nat) : Int) := fun h => by
    rw [tab_at, HT.out]
    unfold wrap64
    omega
  exact ⟨8 + t, ret_int (hfin _), HG.out, rfl⟩
set_option maxRecDepth 100000 in
set_option maxHeartbeats 4000000 in
theorem len64_c (x : Nat) (w : World) (hlo : 65536 ≤ x) (hx : x < 16777216) :
    Calls Tryz.prog 98 #[.int .u64 (x : Int)] w fun e w' => ∃ L : Nat, e = .returned (.int .i64 (L : Int)) ∧ IsLen x L ∧ w = w' := by
  have c32 : ¬ (4294967296 : Int) ≤ (x : Int) := by omega
  obtain ⟨y1, hy1⟩ : ∃ y, x / 65536 = y := ⟨_, rfl⟩
  have c16 : (65536 : Int) ≤ (x : Int) := by omega
  have e16 : (x : Int) / 65536 = (y1 : Int) := by omega
  have c8 : ¬ (256 : Int) ≤ (y1 : Int) := by omega
  have hy : y1 < 256 := by omega
  have hyi : (y1 : Int) < 256 := by omega
  have w1 : IntKind.u8.wrap (y1 : Int) = (y1 : Int) := IntWalk.u8_in _ (by omega)
  obtain ⟨g1, g2, g3⟩ := len8_ok ⟨y1, hy⟩
  obtain ⟨t, ht⟩ : ∃ t, (len8T[y1]!).toNat = t := ⟨_, rfl⟩
  simp only at g1 g2 g3
  rw [ht] at g1 g2 g3
  have HT := Lib.hid ht
  have HG := Lib.hid (show IsLen x (16 + t) from isLen_up (y := y1) (by omega) (by omega) (by omega) g1 g2 g3)
  clear ht g2 g3 hy1 hlo hx
  go_enter Tryz.func98, Tryz.ntmps98
  go_wp2_with fail
  go_ret
  have hfin : ∀ h, wrap64 (16 + wrap64 (((((⟨len8T⟩ : ByteArray)[y1]'h).toNat : Nat)) : Int)) = ((16 + t : Nat) : Int) := fun h => by
    rw [tab_at, HT.out]
    unfold wrap64
    omega
  exact ⟨16 + t, ret_int (hfin _), HG.out, rfl⟩
set_option maxRecDepth 100000 in
set_option maxHeartbeats 4000000 in
theorem len64_d (x : Nat) (w : World) (hlo : 16777216 ≤ x) (hx : x < 4294967296) :
    Calls Tryz.prog 98 #[.int .u64 (x : Int)] w fun e w' => ∃ L : Nat, e = .returned (.int .i64 (L : Int)) ∧ IsLen x L ∧ w = w' := by
  have c32 : ¬ (4294967296 : Int) ≤ (x : Int) := by omega
  obtain ⟨y1, hy1⟩ : ∃ y, x / 65536 = y := ⟨_, rfl⟩
  have c16 : (65536 : Int) ≤ (x : Int) := by omega
  have e16 : (x : Int) / 65536 = (y1 : Int) := by omega
  obtain ⟨y2, hy2⟩ : ∃ y, y1 / 256 = y := ⟨_, rfl⟩
  have c8 : (256 : Int) ≤ (y1 : Int) := by omega
  have e8 : (y1 : Int) / 256 = (y2 : Int) := by omega
  have hy : y2 < 256 := by omega
  have hyi : (y2 : Int) < 256 := by omega
  have w1 : IntKind.u8.wrap (y2 : Int) = (y2 : Int) := IntWalk.u8_in _ (by omega)
  obtain ⟨g1, g2, g3⟩ := len8_ok ⟨y2, hy⟩
  obtain ⟨t, ht⟩ : ∃ t, (len8T[y2]!).toNat = t := ⟨_, rfl⟩
  simp only at g1 g2 g3
  rw [ht] at g1 g2 g3
  have HT := Lib.hid ht
  have HG := Lib.hid (show IsLen x (24 + t) from isLen_up (y := y2) (by omega) (by omega) (by omega) g1 g2 g3)
  clear ht g2 g3 hy1 hy2 hlo hx
  go_enter Tryz.func98, Tryz.ntmps98
  go_wp2_with fail
  go_ret
  have hfin : ∀ h, wrap64 (24 + wrap64 (((((⟨len8T⟩ : ByteArray)[y2]'h).toNat : Nat)) : Int)) = ((24 + t : Nat) : Int) := fun h => by
    rw [tab_at, HT.out]
    unfold wrap64
    omega
  exact ⟨24 + t, ret_int (hfin _), HG.out, rfl⟩
set_option maxRecDepth 100000 in
set_option maxHeartbeats 4000000 in
theorem len64_e (x : Nat) (w : World) (hlo : 4294967296 ≤ x) (hx : x < 1099511627776) :
    Calls Tryz.prog 98 #[.int .u64 (x : Int)] w fun e w' => ∃ L : Nat, e = .returned (.int .i64 (L : Int)) ∧ IsLen x L ∧ w = w' := by
  obtain ⟨y1, hy1⟩ : ∃ y, x / 4294967296 = y := ⟨_, rfl⟩
  have c32 : (4294967296 : Int) ≤ (x : Int) := by omega
  have e32 : (x : Int) / 4294967296 = (y1 : Int) := by omega
  have c16 : ¬ (65536 : Int) ≤ (y1 : Int) := by omega
  have c8 : ¬ (256 : Int) ≤ (y1 : Int) := by omega
  have hy : y1 < 256 := by omega
  have hyi : (y1 : Int) < 256 := by omega
  have w1 : IntKind.u8.wrap (y1 : Int) = (y1 : Int) := IntWalk.u8_in _ (by omega)
  obtain ⟨g1, g2, g3⟩ := len8_ok ⟨y1, hy⟩
  obtain ⟨t, ht⟩ : ∃ t, (len8T[y1]!).toNat = t := ⟨_, rfl⟩
  simp only at g1 g2 g3
  rw [ht] at g1 g2 g3
  have HT := Lib.hid ht
  have HG := Lib.hid (show IsLen x (32 + t) from isLen_up (y := y1) (by omega) (by omega) (by omega) g1 g2 g3)
  clear ht g2 g3 hy1 hlo hx
  go_enter Tryz.func98, Tryz.ntmps98
  go_wp2_with fail
  go_ret
  have hfin : ∀ h, wrap64 (32 + wrap64 (((((⟨len8T⟩ : ByteArray)[y1]'h).toNat : Nat)) : Int)) = ((32 + t : Nat) : Int) := fun h => by
    rw [tab_at, HT.out]
    unfold wrap64
    omega
  exact ⟨32 + t, ret_int (hfin _), HG.out, rfl⟩
set_option maxRecDepth 100000 in
set_option maxHeartbeats 4000000 in
theorem len64_f (x : Nat) (w : World) (hlo : 1099511627776 ≤ x) (hx : x < 281474976710656) :
    Calls Tryz.prog 98 #[.int .u64 (x : Int)] w fun e w' => ∃ L : Nat, e = .returned (.int .i64 (L : Int)) ∧ IsLen x L ∧ w = w' := by
  obtain ⟨y1, hy1⟩ : ∃ y, x / 4294967296 = y := ⟨_, rfl⟩
  have c32 : (4294967296 : Int) ≤ (x : Int) := by omega
  have e32 : (x : Int) / 4294967296 = (y1 : Int) := by omega
  have c16 : ¬ (65536 : Int) ≤ (y1 : Int) := by omega
  obtain ⟨y2, hy2⟩ : ∃ y, y1 / 256 = y := ⟨_, rfl⟩
  have c8 : (256 : Int) ≤ (y1 : Int) := by omega
  have e8 : (y1 : Int) / 256 = (y2 : Int) := by omega
  have hy : y2 < 256 := by omega
  have hyi : (y2 : Int) < 256 := by omega
  have w1 : IntKind.u8.wrap (y2 : Int) = (y2 : Int) := IntWalk.u8_in _ (by omega)
  obtain ⟨g1, g2, g3⟩ := len8_ok ⟨y2, hy⟩
  obtain ⟨t, ht⟩ : ∃ t, (len8T[y2]!).toNat = t := ⟨_, rfl⟩
  simp only at g1 g2 g3
  rw [ht] at g1 g2 g3
  have HT := Lib.hid ht
  have HG := Lib.hid (show IsLen x (40 + t) from isLen_up (y := y2) (by omega) (by omega) (by omega) g1 g2 g3)
  clear ht g2 g3 hy1 hy2 hlo hx
  go_enter Tryz.func98, Tryz.ntmps98
  go_wp2_with fail
  go_ret
  have hfin : ∀ h, wrap64 (40 + wrap64 (((((⟨len8T⟩ : ByteArray)[y2]'h).toNat : Nat)) : Int)) = ((40 + t : Nat) : Int) := fun h => by
    rw [tab_at, HT.out]
    unfold wrap64
    omega
  exact ⟨40 + t, ret_int (hfin _), HG.out, rfl⟩
theorem len64_any (x : Nat) (w : World) (hx : x < 281474976710656) :
    Calls Tryz.prog 98 #[.int .u64 (x : Int)] w fun e w' => ∃ L : Nat, e = .returned (.int .i64 (L : Int)) ∧ IsLen x L ∧ w = w' := by
  rcases Nat.lt_or_ge x 256 with h | h
  · exact len64_a x w (Nat.zero_le _) h
  rcases Nat.lt_or_ge x 65536 with h2 | h2
  · exact len64_b x w h h2
  rcases Nat.lt_or_ge x 16777216 with h3 | h3
  · exact len64_c x w h2 h3
  rcases Nat.lt_or_ge x 4294967296 with h4 | h4
  · exact len64_d x w h3 h4
  rcases Nat.lt_or_ge x 1099511627776 with h5 | h5
  · exact len64_e x w h4 h5
  · exact len64_f x w h5 hx
theorem len_any (x : Nat) (w : World) (hx : x < 281474976710656) :
    Calls Tryz.prog 86 #[.int .u64 (x : Int)] w fun e w' => ∃ L : Nat, e = .returned (.int .i64 (L : Int)) ∧ IsLen x L ∧ w = w' := by
  have H := Lib.hid (len64_any x w hx)
  clear hx
  go_enter Tryz.func86, Tryz.ntmps86
  go_wp2_with fail
  refine H.out.mono ?_; rintro e w1 ⟨L, rfl, hL, rfl⟩
  have HL := Lib.hid hL
  clear hL
  go_wp2_with fail
  go_ret
  exact ⟨L, rfl, HL.out, rfl⟩
end Go.Proofs.YtgecfcdafbedaaaGreat

namespace Go.Proofs.YtgecfcdafbedaaaGreat
open Go.RowKit Go.Shelf
set_option linter.unusedSimpArgs false
set_option linter.unusedVariables false

set_option maxRecDepth 100000 in
set_option maxHeartbeats 4000000 in
theorem npow2_any (x : Nat) (w : World) (h0 : 0 < x) (hx : x < 281474976710656) :
    Calls Tryz.prog 101 #[.int .i64 (x : Int)] w fun e w' => ∃ M : Nat, e = .returned (.int .u64 (M : Int)) ∧ 1 ≤ M ∧ M ≤ 2 * x ∧ w = w' := by
  have w1 : IntKind.u64.wrap (x : Int) = (x : Int) := IntWalk.u64_in _ (by omega)
  have H := Lib.hid (len_any x w hx)
  go_enter Tryz.func101, Tryz.ntmps101
  go_wp2_with fail
  refine H.out.mono ?_; rintro e w1 ⟨L, rfl, hL, rfl⟩
  have HL := Lib.hid hL
  clear hL
  go_wp2_with fail
  go_ret
  obtain ⟨h1, h2, h3⟩ := HL.out
  have h4 : 2 ^ L ≤ 2 * x := by
    rcases h3 with h3 | h3
    · omega
    · exact h3
  have h5 : L < 64 := by
    rcases Nat.lt_or_ge L 64 with h | h
    · exact h
    · exfalso
      have : 2 ^ 64 ≤ 2 ^ L := Nat.pow_le_pow_right (by omega) h
      have e : (2 : Nat) ^ 64 = 18446744073709551616 := by decide
      omega
  have h6 : 0 < 2 ^ L := Nat.pow_pos (by omega)
  refine ⟨2 ^ L, ret_int ?_, h6, h4, rfl⟩
  rw [Nat.min_eq_left (by omega)]
  have e2 : ((2 ^ L : Nat) : Int) = (2 : Int) ^ L := by simp
  rw [← e2]
  exact IntWalk.u64_in _ (by omega)

theorem bits_u64 (op : BinOp) (x y : Int) : 0 ≤ bits op .u64 x y ∧ bits op .u64 x y ≤ 18446744073709551615 := by
  unfold bits
  dsimp only
  generalize (match op with
    | .and => BitVec.ofInt IntKind.u64.bits x &&& BitVec.ofInt IntKind.u64.bits y
    | .or => BitVec.ofInt IntKind.u64.bits x ||| BitVec.ofInt IntKind.u64.bits y
    | .xor => BitVec.ofInt IntKind.u64.bits x ^^^ BitVec.ofInt IntKind.u64.bits y
    | _ => BitVec.ofInt IntKind.u64.bits x &&& ~~~BitVec.ofInt IntKind.u64.bits y).toNat = k
  simp [IntKind.wrap, IntKind.bits, IntKind.signed]
  omega
/-- What is kept of a number by a mask is no greater than the mask. -/
theorem bits_and_le (x : Int) (y : Nat) (hy : y < 18446744073709551616) : ∃ z : Nat, bits .and .u64 x (y : Int) = (z : Int) ∧ z ≤ y := by
  refine ⟨(BitVec.ofInt 64 x &&& BitVec.ofInt 64 (y : Int)).toNat, ?_, ?_⟩
  · show IntKind.u64.wrap (((BitVec.ofInt 64 x &&& BitVec.ofInt 64 (y : Int)).toNat : Nat) : Int) = _
    have := (BitVec.ofInt 64 x &&& BitVec.ofInt 64 (y : Int)).isLt
    exact IntWalk.u64_in _ (by omega)
  · rw [BitVec.toNat_and]
    refine Nat.le_trans Nat.and_le_right ?_
    rw [BitVec.toNat_ofInt]
    have e : (2 : Nat) ^ 64 = 18446744073709551616 := by decide
    rw [e]
    omega
set_option maxRecDepth 100000 in
set_option maxHeartbeats 4000000 in
theorem xnext_any (X : Nat) (v : Int) (w : World) (h : Blk w X 138 [.int .u64 v]) :
    Calls Tryz.prog 102 #[.pointer (some ⟨X, 0, none⟩)] w fun e w' => ∃ u : Int, e = .returned (.int .u64 u) ∧ 0 ≤ u ∧ u ≤ 18446744073709551615 ∧ Blk w' X 138 [.int .u64 u] ∧ Keeps (· = X) w w' := by
  have c1 : w.cell? ⟨X, 0, none⟩ = some (.int .u64 v) := h.cell 0
  have c2 := h.free 0
  have H0 := Lib.hid h
  clear h
  go_enter Tryz.func102, Tryz.ntmps102
  go_wp2_with fail
  go_region_with (fail)
  all_goals
    obtain ⟨u1, hu1⟩ : ∃ u, bits BinOp.xor IntKind.u64 v (IntKind.u64.wrap (v * 8192)) = u := ⟨_, rfl⟩
    rw [hu1]
    clear hu1
    have b1 : Blk (w.setCell ⟨X, 0, none⟩ (.int .u64 u1)).drew X 138 [.int .u64 u1] := H0.out.put 0 (.int .u64 u1)
    have k1 : Keeps (· = X) w (w.setCell ⟨X, 0, none⟩ (.int .u64 u1)).drew := ((Keeps.refl (· = X) w).setCell (p := ⟨X, 0, none⟩) (.inl rfl) _).drew
    generalize (w.setCell ⟨X, 0, none⟩ (.int .u64 u1)).drew = wb at b1 k1 ⊢
    have d1 : wb.cell? ⟨X, 0, none⟩ = some (.int .u64 u1) := b1.cell 0
    have d2 := b1.free 0
    have B1 := Lib.hid b1
    have K1 := Lib.hid k1
    clear b1 k1
    go_wp2_with fail
    go_region_with (fail)
  all_goals
    obtain ⟨u2, hu2⟩ : ∃ u, bits BinOp.xor IntKind.u64 u1 (u1 / 128) = u := ⟨_, rfl⟩
    rw [hu2]
    clear hu2
    have b2 : Blk (wb.setCell ⟨X, 0, none⟩ (.int .u64 u2)).drew X 138 [.int .u64 u2] := B1.out.put 0 (.int .u64 u2)
    have k2 : Keeps (· = X) wb (wb.setCell ⟨X, 0, none⟩ (.int .u64 u2)).drew := ((Keeps.refl (· = X) wb).setCell (p := ⟨X, 0, none⟩) (.inl rfl) _).drew
    generalize (wb.setCell ⟨X, 0, none⟩ (.int .u64 u2)).drew = wc at b2 k2 ⊢
    have e1 : wc.cell? ⟨X, 0, none⟩ = some (.int .u64 u2) := b2.cell 0
    have e2 := b2.free 0
    have B2 := Lib.hid b2
    have K2 := Lib.hid k2
    clear b2 k2
    go_wp2_with fail
    go_region_with (fail)
  all_goals
    obtain ⟨u3, hu3⟩ : ∃ u, bits BinOp.xor IntKind.u64 u2 (IntKind.u64.wrap (u2 * 131072)) = u := ⟨_, rfl⟩
    have hb3 := bits_u64 .xor u2 (IntKind.u64.wrap (u2 * 131072))
    rw [hu3] at hb3
    rw [hu3]
    clear hu3
    have b3 : Blk (wc.setCell ⟨X, 0, none⟩ (.int .u64 u3)).drew X 138 [.int .u64 u3] := B2.out.put 0 (.int .u64 u3)
    have k3 : Keeps (· = X) wc (wc.setCell ⟨X, 0, none⟩ (.int .u64 u3)).drew := ((Keeps.refl (· = X) wc).setCell (p := ⟨X, 0, none⟩) (.inl rfl) _).drew
    generalize (wc.setCell ⟨X, 0, none⟩ (.int .u64 u3)).drew = wd at b3 k3 ⊢
    have f1 : wd.cell? ⟨X, 0, none⟩ = some (.int .u64 u3) := b3.cell 0
    have HF := Lib.hid (show 0 ≤ u3 ∧ u3 ≤ 18446744073709551615 ∧ Blk wd X 138 [.int .u64 u3] ∧ Keeps (· = X) w wd from ⟨hb3.1, hb3.2, b3, (K1.out.trans K2.out).trans k3⟩)
    clear b3 k3 hb3
    go_wp2_with fail
    go_ret
    exact ⟨u3, rfl, HF.out⟩

/-- The row of spots, and a drawer's state beside it. -/
structure Rnd (w : World) (g n : Nat) (f : Nat → Int) (X : Nat) : Prop where
  row : RowF w g n f
  box : ∃ v, Blk w X 138 [.int .u64 v]
  ne : X ≠ g
set_option maxRecDepth 100000 in
set_option maxHeartbeats 8000000 in
theorem breakF_any (g n cap a b : Nat) (f : Nat → Int) (w : World) (h : RowF w g n f) (hab : a ≤ b) (hbn : b ≤ n) (hn : n < 140737488355328) :
    Calls Tryz.prog 90 #[.slice (some ⟨g, 0, none⟩) n cap, .int .i64 (a : Int), .int .i64 (b : Int)] w fun e w' => e = .returned (.tuple #[]) ∧ Moved w g n f w' := by
  obtain ⟨l, hl⟩ : ∃ l : Nat, b - a = l := ⟨_, rfl⟩
  have e1 : (b : Int) - (a : Int) = (l : Int) := by omega
  have w1 : IntKind.i64.wrap (l : Int) = (l : Int) := IntWalk.i64_in _ (by omega)
  have w1u : IntKind.u64.wrap (l : Int) = (l : Int) := IntWalk.u64_in _ (by omega)
  have H0 := Lib.hid h
  by_cases h8 : 8 ≤ l
  · have h8' : (8 : Int) ≤ (l : Int) := by omega
    obtain ⟨m, hm⟩ : ∃ m : Nat, l / 4 = m := ⟨_, rfl⟩
    have e2 : (l : Int) / 4 = (m : Int) := by omega
    have e3 : (l : Int).tdiv 4 = (m : Int) := by rw [Int.tdiv_eq_ediv_of_nonneg (by omega)]; exact e2
    have w2 : IntKind.i64.wrap (m : Int) = (m : Int) := IntWalk.i64_in _ (by omega)
    obtain ⟨c, hc⟩ : ∃ c : Nat, a + m * 2 = c + 1 := ⟨a + m * 2 - 1, by omega⟩
    have f1 : (a : Int) + (m : Int) * 2 = (c : Int) + 1 := by omega
    have v1 : IntKind.i64.wrap ((m : Int) * 2) = (m : Int) * 2 := IntWalk.i64_in _ (by omega)
    have v2 : IntKind.i64.wrap ((c : Int) + 1) = (c : Int) + 1 := IntWalk.i64_in _ (by omega)
    have v3 : IntKind.i64.wrap ((c : Int) + 1 - 1) = (c : Int) := by rw [IntWalk.i64_in _ (by omega)]; omega
    have v4 : IntKind.i64.wrap ((c : Int) + 1 + 1) = (c : Int) + 2 := by rw [IntWalk.i64_in _ (by omega)]; omega
    have HFACT := Lib.hid (show a ≤ c ∧ c + 2 < a + l ∧ a + l = b by omega)
    have hB := (Below.refl w.heap.size w).alloc (Nat.le_refl _) (.cells #[.int .u64 (l : Int)] 138)
    have hr0 : Rnd (w.alloc (.cells #[.int .u64 (l : Int)] 138)) g n f w.heap.size := ⟨h.below hB, ⟨_, Blk.new w 138 [.int .u64 (l : Int)]⟩, fun e => by have := h.lt; omega⟩
    have HR0 := Lib.hid hr0
    have HP := Lib.hid (npow2_any l)
    have HL := Lib.hid (show 0 < l ∧ l < 140737488355328 by omega)
    clear h hl hm hc hB hr0
    go_enter Tryz.func90, Tryz.ntmps90
    go_wp2_with fail
    refine (HP.out _ HL.out.1 (by have := HL.out; omega)).mono ?_; rintro e wz ⟨M, rfl, hM1, hM2, rfl⟩
    obtain ⟨M0, rfl⟩ : ∃ M0, M = M0 + 1 := ⟨M - 1, by omega⟩
    have HM := Lib.hid (show M0 < 2 * l ∧ M0 < 18446744073709551615 by have := HL.out; omega)
    obtain ⟨X, hX⟩ : ∃ X, w.heap.size = X := ⟨_, rfl⟩
    have hHX := Lib.hid (show w.heap.size ≤ X by omega)
    obtain ⟨W1, hW1⟩ : ∃ W1, w.alloc (.cells #[.int .u64 (l : Int)] 138) = W1 := ⟨_, rfl⟩
    have hk0 : Keeps (· = g) w W1 := by rw [← hW1]; exact (Keeps.refl _ w).alloc _
    have HK0 := Lib.hid hk0
    have HR1 : Hid (Rnd W1 g n f X) := Lib.hid (by rw [← hW1, ← hX]; exact HR0.out)
    rw [hX, hW1]
    clear hW1 HR0 hX hk0 hM1 hM2 HP H0
    go_wp2_with fail
    go_loopw [9, 10] (fun s r wr => ∃ (j : Nat) (f2 : Nat → Int), j ≤ 3 ∧ s = .int .i64 ((c + j : Nat) : Int) ∧ Rnd wr g n f2 X ∧ Shuf n f f2 ∧ Keeps (· = g) w wr) (fun s _ _ => c + 4 - (intOf s).toNat)
    case atStart => exact ⟨0, f, by omega, rfl, HR1.out, Shuf.refl _ _, HK0.out⟩
    case round =>
      obtain ⟨j, f2, hj3, rfl, hR, hS, hK⟩ := hrel
      obtain ⟨p, hp⟩ : ∃ p, c + j = p := ⟨_, rfl⟩
      rw [hp]
      have HP3 := Lib.hid (And.intro hp hj3)
      have HR2 := Lib.hid hR
      have HS2 := Lib.hid hS
      have HK2 := Lib.hid hK
      clear hR hS hK hp hj3
      by_cases hlt : (p : Int) ≤ (c : Int) + 2
      · have hpn : p < n := by have := HFACT.out; omega
        have p0 : (0 : Int) ≤ (p : Int) := by omega
        have p1 : (p : Int) < (n : Int) := by omega
        have hwp : IntKind.i64.wrap ((p : Int) + 1) = ((p + 1 : Nat) : Int) := by rw [IntWalk.i64_in _ (by omega)]; omega
        obtain ⟨v0, hv0⟩ := HR2.out.box
        have hxn := xnext_any X v0 wr hv0
        have HXN := Lib.hid hxn
        clear hxn hv0
        go_wp2_with fail
        refine HXN.out.mono ?_; rintro e wb ⟨u, rfl, hu1, hu2, hb, hkb⟩
        have hwm : IntKind.u64.wrap (M0 : Int) = (M0 : Int) := IntWalk.u64_in _ (by have := HM.out; omega)
        obtain ⟨z, hz, hzM⟩ := bits_and_le u M0 (by have := HM.out; omega)
        have hwz : IntKind.i64.wrap (z : Int) = (z : Int) := IntWalk.i64_in _ (by have := HM.out; have := HL.out; omega)
        have hrow : RowF wb g n f2 := HR2.out.row.keep hkb (fun e => HR2.out.ne e.symm)
        have hkk : Keeps (· = g) w wb := HK2.out.then_ hkb (fun i hi => by subst hi; exact .inr hHX.out)
        have HB := Lib.hid hb
        have HROW := Lib.hid hrow
        have HKK := Lib.hid hkk
        have HZM := Lib.hid hzM
        clear hb hrow hkk hkb hzM hu1 hu2
        by_cases hzl : z < l
        · have hzl' : ¬ (l : Int) ≤ (z : Int) := by omega
          have HQL := Lib.hid (show z < l by omega)
          obtain ⟨k, hk⟩ : ∃ k, a + z = k := ⟨_, rfl⟩
          have hwk : IntKind.i64.wrap ((a : Int) + (z : Int)) = (k : Int) := by have := HQL.out; have := HFACT.out; rw [IntWalk.i64_in _ (by omega)]; omega
          have hkn : k < n := by have := HFACT.out; have := HQL.out; omega
          have k0 : (0 : Int) ≤ (k : Int) := by omega
          have k1 : (k : Int) < (n : Int) := by omega
          have c1 := HROW.out.cell hpn
          have c2 := HROW.out.cell hkn
          obtain ⟨x, hx⟩ : ∃ x, f2 p = x := ⟨_, rfl⟩
          obtain ⟨y2, hy2⟩ : ∃ y2, f2 k = y2 := ⟨_, rfl⟩
          rw [hx] at c1
          rw [hy2] at c2
          have HX := Lib.hid hx
          have HY := Lib.hid hy2
          have hf1 := HROW.out.free p
          have hf2 := HROW.out.free k
          obtain ⟨u1, e3⟩ := HROW.out.after p k hpn hkn y2
          have e4 := HROW.out.after_free p k hpn y2
          clear hx hy2 hk
          go_wp2_with fail

          go_region_with (fail)
          all_goals
            have hsw := swapped HROW.out p k hpn hkn
            rw [HX.out, HY.out] at hsw
            obtain ⟨s1, s2, s3⟩ := hsw
            have hb2 := HB.out.keep s3 HR2.out.ne
            have S1 := Lib.hid (Rnd.mk s1 ⟨_, hb2⟩ HR2.out.ne)
            have S2 := Lib.hid (HS2.out.trans s2)
            have S3 := Lib.hid (HKK.out.trans s3)
            clear s1 s2 s3 hb2 c1 c2 e3 e4 hf1 hf2
            have HPJ := Lib.hid (show p + 1 = c + (j + 1) by have := HP3.out; omega)
            have HJ3 := Lib.hid (show j + 1 ≤ 3 by have := HP3.out; omega)
            go_wp2_with fail
            go_roundw
            case rel => exact ⟨j + 1, _, HJ3.out, (by rw [← HPJ.out]; go_num), ⟨S1.out.row, S1.out.box, S1.out.ne⟩, S2.out, S3.out.drew⟩
            case measure => (simp [intOf]; omega)
        · have hzl' : (l : Int) ≤ (z : Int) := by omega
          obtain ⟨y, hy⟩ : ∃ y : Nat, (z : Int) - (l : Int) = (y : Int) := ⟨z - l, by omega⟩
          have hwy : IntKind.i64.wrap (y : Int) = (y : Int) := IntWalk.i64_in _ (by have := HM.out; have := HL.out; have := HZM.out; omega)
          have HQL := Lib.hid (show y < l by have := HM.out; have := HZM.out; omega)
          obtain ⟨k, hk⟩ : ∃ k, a + y = k := ⟨_, rfl⟩
          have hwk : IntKind.i64.wrap ((a : Int) + (y : Int)) = (k : Int) := by have := HQL.out; have := HFACT.out; rw [IntWalk.i64_in _ (by omega)]; omega
          have hkn : k < n := by have := HFACT.out; have := HQL.out; omega
          have k0 : (0 : Int) ≤ (k : Int) := by omega
          have k1 : (k : Int) < (n : Int) := by omega
          have c1 := HROW.out.cell hpn
          have c2 := HROW.out.cell hkn
          obtain ⟨x, hx⟩ : ∃ x, f2 p = x := ⟨_, rfl⟩
          obtain ⟨y2, hy2⟩ : ∃ y2, f2 k = y2 := ⟨_, rfl⟩
          rw [hx] at c1
          rw [hy2] at c2
          have HX := Lib.hid hx
          have HY := Lib.hid hy2
          have hf1 := HROW.out.free p
          have hf2 := HROW.out.free k
          obtain ⟨u1, e3⟩ := HROW.out.after p k hpn hkn y2
          have e4 := HROW.out.after_free p k hpn y2
          clear hx hy2 hk
          go_wp2_with fail
          go_region_with (fail)
          all_goals
            have hsw := swapped HROW.out p k hpn hkn
            rw [HX.out, HY.out] at hsw
            obtain ⟨s1, s2, s3⟩ := hsw
            have hb2 := HB.out.keep s3 HR2.out.ne
            have S1 := Lib.hid (Rnd.mk s1 ⟨_, hb2⟩ HR2.out.ne)
            have S2 := Lib.hid (HS2.out.trans s2)
            have S3 := Lib.hid (HKK.out.trans s3)
            clear s1 s2 s3 hb2 c1 c2 e3 e4 hf1 hf2
            have HPJ := Lib.hid (show p + 1 = c + (j + 1) by have := HP3.out; omega)
            have HJ3 := Lib.hid (show j + 1 ≤ 3 by have := HP3.out; omega)
            go_wp2_with fail
            go_roundw
            case rel => exact ⟨j + 1, _, HJ3.out, (by rw [← HPJ.out]; go_num), ⟨S1.out.row, S1.out.box, S1.out.ne⟩, S2.out, S3.out.drew⟩
            case measure => (simp [intOf]; omega)
      · go_wp2_with fail
        go_end0
        exact ⟨rfl, f2, HR2.out.row, HS2.out, HK2.out⟩
  · have h8' : ¬ (8 : Int) ≤ (l : Int) := by omega
    clear h hl
    go_enter Tryz.func90, Tryz.ntmps90
    go_wp2_with fail
    go_end0
    exact ⟨rfl, Moved.refl H0.out⟩
end Go.Proofs.YtgecfcdafbedaaaGreat
