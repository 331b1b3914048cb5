/- The walks over math/bits.Len64, Len: how many bits there are. -/
import Derived.Test.YtnnbjcnfekgngaaSpRow
import Derived.Deep.CutBlock
namespace Go.Proofs.Ytnnbjcnfekgngaa
open Go.RowKit Go.Shelf
set_option linter.unusedSimpArgs false
set_option linter.unusedVariables false

def len8T : Array UInt8 := #[0, 1, 2, 2, 3, 3, 3, 3, 4, 4, 4, 4, 4, 4, 4, 4, 5, 5, 5, 5, 5, 5, 5, 5, 5, 5, 5, 5, 5, 5, 5, 5, 6, 6, 6, 6, 6, 6, 6, 6, 6, 6, 6, 6, 6, 6, 6, 6, 6, 6, 6, 6, 6, 6, 6, 6, 6, 6, 6, 6, 6, 6, 6, 6, 7, 7, 7, 7, 7, 7, 7, 7, 7, 7, 7, 7, 7, 7, 7, 7, 7, 7, 7, 7, 7, 7, 7, 7, 7, 7, 7, 7, 7, 7, 7, 7, 7, 7, 7, 7, 7, 7, 7, 7, 7, 7, 7, 7, 7, 7, 7, 7, 7, 7, 7, 7, 7, 7, 7, 7, 7, 7, 7, 7, 7, 7, 7, 7, 8, 8, 8, 8, 8, 8, 8, 8, 8, 8, 8, 8, 8, 8, 8, 8, 8, 8, 8, 8, 8, 8, 8, 8, 8, 8, 8, 8, 8, 8, 8, 8, 8, 8, 8, 8, 8, 8, 8, 8, 8, 8, 8, 8, 8, 8, 8, 8, 8, 8, 8, 8, 8, 8, 8, 8, 8, 8, 8, 8, 8, 8, 8, 8, 8, 8, 8, 8, 8, 8, 8, 8, 8, 8, 8, 8, 8, 8, 8, 8, 8, 8, 8, 8, 8, 8, 8, 8, 8, 8, 8, 8, 8, 8, 8, 8, 8, 8, 8, 8, 8, 8, 8, 8, 8, 8, 8, 8, 8, 8, 8, 8, 8, 8, 8, 8, 8, 8, 8, 8, 8, 8, 8, 8, 8, 8, 8, 8]
theorem len8_ok : ∀ y : Fin 256, (len8T[y.val]!).toNat ≤ 8 ∧ y.val < 2 ^ (len8T[y.val]!).toNat ∧ (y.val = 0 ∨ 2 ^ (len8T[y.val]!).toNat ≤ 2 * y.val) := by decide +kernel
/-- What Len tells. -/
def IsLen (x L : Nat) : Prop := L ≤ 64 ∧ x < 2 ^ L ∧ (x = 0 ∨ 2 ^ L ≤ 2 * x)
theorem isLen_up {x y s : Nat} {t : Nat} (hs : s ≤ 56) (hy : x / 2 ^ s = y) (hy0 : y ≠ 0) (h1 : t ≤ 8) (h2 : y < 2 ^ t) (h3 : y = 0 ∨ 2 ^ t ≤ 2 * y) : IsLen x (s + t) := by
  have hp : 0 < 2 ^ s := Nat.pow_pos (by omega)
  have hx : x < (y + 1) * 2 ^ s := by
    rw [← hy]
    have := Nat.lt_mul_div_succ x hp
    rwa [Nat.mul_comm] at this
  have hx2 : y * 2 ^ s ≤ x := by rw [← hy]; exact Nat.div_mul_le_self _ _
  refine ⟨by omega, ?_, .inr ?_⟩
  · rw [Nat.pow_add, Nat.mul_comm]
    exact Nat.lt_of_lt_of_le hx (Nat.mul_le_mul_right _ (by omega))
  · rcases h3 with h3 | h3
    · exact absurd h3 hy0
    · rw [Nat.pow_add, Nat.mul_comm]
      have : 2 ^ t * 2 ^ s ≤ 2 * y * 2 ^ s := Nat.mul_le_mul_right _ h3
      rw [Nat.mul_assoc] at this
      omega
theorem tab_at (y : Nat) (h : y < ((⟨len8T⟩ : ByteArray)).size) : ((⟨len8T⟩ : ByteArray)[y]'h).toNat = (len8T[y]!).toNat := by
  have h2 : y < len8T.size := h
  rw [getElem!_pos len8T y h2]
  rfl
set_option maxRecDepth 100000 in
set_option maxHeartbeats 4000000 in
theorem len64_a (x : Nat) (w : World) (hlo : 0 ≤ x) (hx : x < 256) :
    Calls Try.prog 46 #[.int .u64 (x : Int)] w fun e w' => ∃ L : Nat, e = .returned (.int .i64 (L : Int)) ∧ IsLen x L ∧ w = w' := by
  have c32 : ¬ (4294967296 : Int) ≤ (x : Int) := by omega
  have c16 : ¬ (65536 : Int) ≤ (x : Int) := by omega
  have c8 : ¬ (256 : Int) ≤ (x : Int) := by omega
  have hy : x < 256 := by omega
  have hyi : (x : Int) < 256 := by omega
  have w1 : IntKind.u8.wrap (x : Int) = (x : Int) := IntWalk.u8_in _ (by omega)
  obtain ⟨g1, g2, g3⟩ := len8_ok ⟨x, hy⟩
  obtain ⟨t, ht⟩ : ∃ t, (len8T[x]!).toNat = t := ⟨_, rfl⟩
  simp only at g1 g2 g3
  rw [ht] at g1 g2 g3
  have HT := Lib.hid ht
  have HG := Lib.hid (show IsLen x (0 + t) from ⟨by omega, by rw [Nat.zero_add]; exact g2, by rw [Nat.zero_add]; exact g3⟩)
  clear ht g2 g3
  go_enter Try.func46, Try.ntmps46
  go_wp2_with fail
  go_ret
  have hfin : ∀ h, wrap64 (wrap64 (((((⟨len8T⟩ : ByteArray)[x]'h).toNat : Nat)) : Int)) = ((0 + t : Nat) : Int) := fun h => by
    rw [tab_at, HT.out]
    unfold wrap64
    omega
  exact ⟨0 + t, ret_int (hfin _), HG.out, rfl⟩
set_option maxRecDepth 100000 in
set_option maxHeartbeats 4000000 in
theorem len64_b (x : Nat) (w : World) (hlo : 256 ≤ x) (hx : x < 65536) :
    Calls Try.prog 46 #[.int .u64 (x : Int)] w fun e w' => ∃ L : Nat, e = .returned (.int .i64 (L : Int)) ∧ IsLen x L ∧ w = w' := by
  have c32 : ¬ (4294967296 : Int) ≤ (x : Int) := by omega
  have c16 : ¬ (65536 : Int) ≤ (x : Int) := by omega
  obtain ⟨y1, hy1⟩ : ∃ y, x / 256 = y := ⟨_, rfl⟩
  have c8 : (256 : Int) ≤ (x : Int) := by omega
  have e8 : (x : Int) / 256 = (y1 : Int) := by omega
  have hy : y1 < 256 := by omega
  have hyi : (y1 : Int) < 256 := by omega
  have w1 : IntKind.u8.wrap (y1 : Int) = (y1 : Int) := IntWalk.u8_in _ (by omega)
  obtain ⟨g1, g2, g3⟩ := len8_ok ⟨y1, hy⟩
  obtain ⟨t, ht⟩ : ∃ t, (len8T[y1]!).toNat = t := ⟨_, rfl⟩
  simp only at g1 g2 g3
  rw [ht] at g1 g2 g3
  have HT := Lib.hid ht
  have HG := Lib.hid (show IsLen x (8 + t) from isLen_up (y := y1) (by omega) (by omega) (by omega) g1 g2 g3)
  clear ht g2 g3 hy1 hlo hx
  go_enter Try.func46, Try.ntmps46
  go_wp2_with fail
  go_ret
  have hfin : ∀ h, wrap64 (8 + wrap64 (((((⟨len8T⟩ : ByteArray)[y1]'h).toNat : Nat)) : Int)) = ((8 + t : Nat) : Int) := fun h => by
    rw [tab_at, HT.out]
    unfold wrap64
    omega
  exact ⟨8 + t, ret_int (hfin _), HG.out, rfl⟩
set_option maxRecDepth 100000 in
set_option maxHeartbeats 4000000 in
theorem len64_c (x : Nat) (w : World) (hlo : 65536 ≤ x) (hx : x < 16777216) :
    Calls Try.prog 46 #[.int .u64 (x : Int)] w fun e w' => ∃ L : Nat, e = .returned (.int .i64 (L : Int)) ∧ IsLen x L ∧ w = w' := by
  have c32 : ¬ (4294967296 : Int) ≤ (x : Int) := by omega
  obtain ⟨y1, hy1⟩ : ∃ y, x / 65536 = y := ⟨_, rfl⟩
  have c16 : (65536 : Int) ≤ (x : Int) := by omega
  have e16 : (x : Int) / 65536 = (y1 : Int) := by omega
  have c8 : ¬ (256 : Int) ≤ (y1 : Int) := by omega
  have hy : y1 < 256 := by omega
  have hyi : (y1 : Int) < 256 := by omega
  have w1 : IntKind.u8.wrap (y1 : Int) = (y1 : Int) := IntWalk.u8_in _ (by omega)
  obtain ⟨g1, g2, g3⟩ := len8_ok ⟨y1, hy⟩
  obtain ⟨t, ht⟩ : ∃ t, (len8T[y1]!).toNat = t := ⟨_, rfl⟩
  simp only at g1 g2 g3
  rw [ht] at g1 g2 g3
  have HT := Lib.hid ht
  have HG := Lib.hid (show IsLen x (16 + t) from isLen_up (y := y1) (by omega) (by omega) (by omega) g1 g2 g3)
  clear ht g2 g3 hy1 hlo hx
  go_enter Try.func46, Try.ntmps46
  go_wp2_with fail
  go_ret
  have hfin : ∀ h, wrap64 (16 + wrap64 (((((⟨len8T⟩ : ByteArray)[y1]'h).toNat : Nat)) : Int)) = ((16 + t : Nat) : Int) := fun h => by
    rw [tab_at, HT.out]
    unfold wrap64
    omega
  exact ⟨16 + t, ret_int (hfin _), HG.out, rfl⟩
set_option maxRecDepth 100000 in
set_option maxHeartbeats 4000000 in
theorem len64_d (x : Nat) (w : World) (hlo : 16777216 ≤ x) (hx : x < 4294967296) :
    Calls Try.prog 46 #[.int .u64 (x : Int)] w fun e w' => ∃ L : Nat, e = .returned (.int .i64 (L : Int)) ∧ IsLen x L ∧ w = w' := by
  have c32 : ¬ (4294967296 : Int) ≤ (x : Int) := by omega
  obtain ⟨y1, hy1⟩ : ∃ y, x / 65536 = y := ⟨_, rfl⟩
  have c16 : (65536 : Int) ≤ (x : Int) := by omega
  have e16 : (x : Int) / 65536 = (y1 : Int) := by omega
  obtain ⟨y2, hy2⟩ : ∃ y, y1 / 256 = y := ⟨_, rfl⟩
  have c8 : (256 : Int) ≤ (y1 : Int) := by omega
  have e8 : (y1 : Int) / 256 = (y2 : Int) := by omega
  have hy : y2 < 256 := by omega
  have hyi : (y2 : Int) < 256 := by omega
  have w1 : IntKind.u8.wrap (y2 : Int) = (y2 : Int) := IntWalk.u8_in _ (by omega)
  obtain ⟨g1, g2, g3⟩ := len8_ok ⟨y2, hy⟩
  obtain ⟨t, ht⟩ : ∃ t, (len8T[y2]!).toNat = t := ⟨_, rfl⟩
  simp only at g1 g2 g3
  rw [ht] at g1 g2 g3
  have HT := Lib.hid ht
  have HG := Lib.hid (show IsLen x (24 + t) from isLen_up (y := y2) (by omega) (by omega) (by omega) g1 g2 g3)
  clear ht g2 g3 hy1 hy2 hlo hx
  go_enter Try.func46, Try.ntmps46
  go_wp2_with fail
  go_ret
  have hfin : ∀ h, wrap64 (24 + wrap64 (((((⟨len8T⟩ : ByteArray)[y2]'h).toNat : Nat)) : Int)) = ((24 + t : Nat) : Int) := fun h => by
    rw [tab_at, HT.out]
    unfold wrap64
    omega
  exact ⟨24 + t, ret_int (hfin _), HG.out, rfl⟩
set_option maxRecDepth 100000 in
set_option maxHeartbeats 4000000 in
theorem len64_e (x : Nat) (w : World) (hlo : 4294967296 ≤ x) (hx : x < 1099511627776) :
    Calls Try.prog 46 #[.int .u64 (x : Int)] w fun e w' => ∃ L : Nat, e = .returned (.int .i64 (L : Int)) ∧ IsLen x L ∧ w = w' := by
  obtain ⟨y1, hy1⟩ : ∃ y, x / 4294967296 = y := ⟨_, rfl⟩
  have c32 : (4294967296 : Int) ≤ (x : Int) := by omega
  have e32 : (x : Int) / 4294967296 = (y1 : Int) := by omega
  have c16 : ¬ (65536 : Int) ≤ (y1 : Int) := by omega
  have c8 : ¬ (256 : Int) ≤ (y1 : Int) := by omega
  have hy : y1 < 256 := by omega
  have hyi : (y1 : Int) < 256 := by omega
  have w1 : IntKind.u8.wrap (y1 : Int) = (y1 : Int) := IntWalk.u8_in _ (by omega)
  obtain ⟨g1, g2, g3⟩ := len8_ok ⟨y1, hy⟩
  obtain ⟨t, ht⟩ : ∃ t, (len8T[y1]!).toNat = t := ⟨_, rfl⟩
  simp only at g1 g2 g3
  rw [ht] at g1 g2 g3
  have HT := Lib.hid ht
  have HG := Lib.hid (show IsLen x (32 + t) from isLen_up (y := y1) (by omega) (by omega) (by omega) g1 g2 g3)
  clear ht g2 g3 hy1 hlo hx
  go_enter Try.func46, Try.ntmps46
  go_wp2_with fail
  go_ret
  have hfin : ∀ h, wrap64 (32 + wrap64 (((((⟨len8T⟩ : ByteArray)[y1]'h).toNat : Nat)) : Int)) = ((32 + t : Nat) : Int) := fun h => by
    rw [tab_at, HT.out]
    unfold wrap64
    omega
  exact ⟨32 + t, ret_int (hfin _), HG.out, rfl⟩
set_option maxRecDepth 100000 in
set_option maxHeartbeats 4000000 in
theorem len64_f (x : Nat) (w : World) (hlo : 1099511627776 ≤ x) (hx : x < 281474976710656) :
    Calls Try.prog 46 #[.int .u64 (x : Int)] w fun e w' => ∃ L : Nat, e = .returned (.int .i64 (L : Int)) ∧ IsLen x L ∧ w = w' := by
  obtain ⟨y1, hy1⟩ : ∃ y, x / 4294967296 = y := ⟨_, rfl⟩
  have c32 : (4294967296 : Int) ≤ (x : Int) := by omega
  have e32 : (x : Int) / 4294967296 = (y1 : Int) := by omega
  have c16 : ¬ (65536 : Int) ≤ (y1 : Int) := by omega
  obtain ⟨y2, hy2⟩ : ∃ y, y1 / 256 = y := ⟨_, rfl⟩
  have c8 : (256 : Int) ≤ (y1 : Int) := by omega
  have e8 : (y1 : Int) / 256 = (y2 : Int) := by omega
  have hy : y2 < 256 := by omega
  have hyi : (y2 : Int) < 256 := by omega
  have w1 : IntKind.u8.wrap (y2 : Int) = (y2 : Int) := IntWalk.u8_in _ (by omega)
  obtain ⟨g1, g2, g3⟩ := len8_ok ⟨y2, hy⟩
  obtain ⟨t, ht⟩ : ∃ t, (len8T[y2]!).toNat = t := ⟨_, rfl⟩
  simp only at g1 g2 g3
  rw [ht] at g1 g2 g3
  have HT := Lib.hid ht
  have HG := Lib.hid (show IsLen x (40 + t) from isLen_up (y := y2) (by omega) (by omega) (by omega) g1 g2 g3)
  clear ht g2 g3 hy1 hy2 hlo hx
  go_enter Try.func46, Try.ntmps46
  go_wp2_with fail
  go_ret
  have hfin : ∀ h, wrap64 (40 + wrap64 (((((⟨len8T⟩ : ByteArray)[y2]'h).toNat : Nat)) : Int)) = ((40 + t : Nat) : Int) := fun h => by
    rw [tab_at, HT.out]
    unfold wrap64
    omega
  exact ⟨40 + t, ret_int (hfin _), HG.out, rfl⟩
theorem len64_any (x : Nat) (w : World) (hx : x < 281474976710656) :
    Calls Try.prog 46 #[.int .u64 (x : Int)] w fun e w' => ∃ L : Nat, e = .returned (.int .i64 (L : Int)) ∧ IsLen x L ∧ w = w' := by
  rcases Nat.lt_or_ge x 256 with h | h
  · exact len64_a x w (Nat.zero_le _) h
  rcases Nat.lt_or_ge x 65536 with h2 | h2
  · exact len64_b x w h h2
  rcases Nat.lt_or_ge x 16777216 with h3 | h3
  · exact len64_c x w h2 h3
  rcases Nat.lt_or_ge x 4294967296 with h4 | h4
  · exact len64_d x w h3 h4
  rcases Nat.lt_or_ge x 1099511627776 with h5 | h5
  · exact len64_e x w h4 h5
  · exact len64_f x w h5 hx
theorem len_any (x : Nat) (w : World) (hx : x < 281474976710656) :
    Calls Try.prog 34 #[.int .u64 (x : Int)] w fun e w' => ∃ L : Nat, e = .returned (.int .i64 (L : Int)) ∧ IsLen x L ∧ w = w' := by
  have H := Lib.hid (len64_any x w hx)
  clear hx
  go_enter Try.func34, Try.ntmps34
  go_wp2_with fail
  refine H.out.mono ?_; rintro e w1 ⟨L, rfl, hL, rfl⟩
  have HL := Lib.hid hL
  clear hL
  go_wp2_with fail
  go_ret
  exact ⟨L, rfl, HL.out, rfl⟩
end Go.Proofs.Ytnnbjcnfekgngaa
