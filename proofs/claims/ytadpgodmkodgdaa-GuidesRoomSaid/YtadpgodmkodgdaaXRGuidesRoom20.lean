/- Packets as rows of cells: whole loads and stores, copies into parts of them; The walk over packets.Check: the check of a packet's bytes. -/
import Derived.Test.YtadpgodmkodgdaaXRGuidesRoom19
import Derived.Test.YtadpgodmkodgdaaXRGuidesRoom5
import Derived.Test.YtadpgodmkodgdaaXRGuidesRoom4
import Derived.Test.YtadpgodmkodgdaaXRGuidesRoom10
import Derived.Deep.MidRow
import Derived.Test.YtadpgodmkodgdaaXRGuidesRoom1
import Derived.Laws.BitsAllLaws
namespace Go.Proofs.Ytadpgodmkodgdaa
open Go.RowKit
set_option linter.unusedSimpArgs false
set_option linter.unusedVariables false

/-- A packet's cells. -/
def pktC (kind : Int) (f t : List Int) (v : Value) : List Value := .int .u8 kind :: (f.map (Value.int .u8) ++ (t.map (Value.int .u8) ++ [v]))
def zer16 : List Int := List.replicate 16 0
def zPkt : List Value := pktC 0 zer16 zer16 (.slice none 0 0)
theorem pktC_length {kind : Int} {f t : List Int} {v : Value} (hf : f.length = 16) (ht : t.length = 16) : (pktC kind f t v).length = 34 := by simp [pktC, hf, ht]
theorem pktC_one {kind : Int} {f t : List Int} {A : Option Addr} {n c : Nat} : ∀ u ∈ pktC kind f t (.slice A n c), u.oneCell' = true := by
  intro u hu
  simp only [pktC, List.mem_cons, List.mem_append, List.mem_map, List.not_mem_nil, or_false] at hu
  rcases hu with rfl | ⟨_, _, rfl⟩ | ⟨_, _, rfl⟩ | rfl <;> rfl
theorem pktC_set0 {k k' : Int} {f t : List Int} {v : Value} : (pktC k f t v).set 0 (.int .u8 k') = pktC k' f t v := rfl
theorem pktC_set33 {k : Int} {f t : List Int} {v v' : Value} (hf : f.length = 16) (ht : t.length = 16) : (pktC k f t v).set 33 v' = pktC k f t v' := by
  simp only [pktC, List.set_cons_succ]
  rw [List.set_append, if_neg (by simp [hf]), List.length_map, hf, List.set_append, if_neg (by simp [ht]), List.length_map, ht]
  rfl
theorem pktC_splice1 {k : Int} {f t f' : List Int} {v : Value} (hf : f.length = 16) (hf' : f'.length = 16) : splice (pktC k f t v) 1 (f'.map (Value.int .u8)) = pktC k f' t v := by
  simp only [splice, pktC, List.length_map, hf', List.take_succ_cons, List.take_zero, show 1 + 16 = 16 + 1 from rfl, List.drop_succ_cons]
  rw [List.drop_append_of_le_length (by simp [hf]), List.drop_of_length_le (by simp [hf])]
  rfl
theorem pktC_splice17 {k : Int} {f t t' : List Int} {v : Value} (hf : f.length = 16) (ht : t.length = 16) (ht' : t'.length = 16) : splice (pktC k f t v) 17 (t'.map (Value.int .u8)) = pktC k f t' v := by
  simp only [splice, pktC, List.length_map, ht', show 17 = 16 + 1 from rfl, List.take_succ_cons, show 16 + 1 + 16 = 32 + 1 from rfl, List.drop_succ_cons]
  rw [List.take_append_of_le_length (by simp [hf]), List.take_of_length_le (by simp [hf]), ← List.append_assoc (f.map _), List.drop_append_of_le_length (by simp [hf, ht]), List.drop_of_length_le (by simp [hf, ht])]
  simp
theorem info_pkt : (Try.prog.info? 45).map (·.size) = some 34 := by kernel_rfl
end Go.Proofs.Ytadpgodmkodgdaa

namespace Go.Proofs.Ytadpgodmkodgdaa
open Go.RowKit
set_option linter.unusedSimpArgs false
set_option linter.unusedVariables false

theorem chkN_snoc : ∀ (l : List Int) (c : Int) (odd : Bool) (n : Int), chkN odd n (l ++ [c]) = fold16 (chkN odd n l + heft (odd != odd_ l.length) c)
  | [], c, odd, n => by simp [chkN, odd_]
  | d :: l, c, odd, n => by
    rw [List.cons_append, chkN, chkN_snoc l c, chkN]
    congr 3
    simp only [List.length_cons, odd_]
    rcases Nat.mod_two_eq_zero_or_one l.length with h | h
    · rw [h, show (l.length + 1) % 2 = 1 by omega]; cases odd <;> rfl
    · rw [h, show (l.length + 1) % 2 = 0 by omega]; cases odd <;> rfl
theorem not16 (n : Int) (h0 : 0 ≤ n) (h1 : n ≤ 65535) : bits .xor .u16 IntKind.u16.max n = 65535 - n := by
  obtain ⟨m, rfl⟩ := Int.eq_ofNat_of_zero_le h0
  have hm : m < 65536 := by omega
  have e : IntKind.u16.max = ((65535 : Nat) : Int) := by decide
  rw [e, u16_xor_nat 65535 m (by omega) hm]
  have h := congrArg BitVec.toNat (BitVec.allOnes_xor (x := BitVec.ofNat 16 m))
  simp only [BitVec.toNat_xor, BitVec.toNat_allOnes, BitVec.toNat_not, BitVec.toNat_ofNat] at h
  rw [Nat.mod_eq_of_lt (by simpa using hm)] at h
  simp only [Nat.reducePow, Nat.add_one_sub_one, Nat.reduceSub] at h
  rw [h]; omega
theorem isB_rd {w : World} {A : Option Addr} {n : Nat} {xs : List Int} (h : Rd w .u8 A n xs) : isB xs := fun x hx => wf_bounds_u8 (h.wf x hx)
theorem isB_take {l : List Int} (h : isB l) (j : Nat) : isB (l.take j) := fun x hx => h x (List.mem_of_mem_take hx)

set_option maxRecDepth 100000 in
set_option maxHeartbeats 1000000 in
theorem check_any (A0 : Option Addr) (n0 c0 : Nat) (bs : List Int) (w : World) (r0 : Rd w .u8 A0 n0 bs) (l0 : n0 ≤ c0) :
    Calls Try.prog 53 #[.slice A0 n0 c0] w fun e w' => e = .returned (.int .u16 (chk bs)) ∧ w = w' := by
  have hbig := r0.big
  have hl := r0.len
  have hB := isB_rd r0
  have hand : ∀ x : Int, 0 ≤ x → x ≤ 4294967295 → bits .and .u32 x 65535 = x % 65536 := fun x h0 h1 => by
    rw [u32_and x 65535 h0 (by omega) (by omega) (by omega), show ((65535 : Int)).toNat = 2 ^ 16 - 1 from rfl, Nat.and_two_pow_sub_one_eq_mod]
    omega
  go_enter Try.func53, Try.ntmps53
  go_wp2_with fail
  go_loop [3, 8] (fun n i => ∃ j : Nat, j ≤ n0 ∧ i = .int .i64 j ∧ n = .int .u32 (chkN false 0 (bs.take j))) (fun _ i => n0 - (intOf i).toNat)
  case atStart => exact ⟨0, by omega, rfl, by simp [chkN]⟩
  case round =>
    obtain ⟨j, hj, rfl, rfl⟩ := hrel
    have hb := chk_bounds (odd := false) (n := 0) (by omega) (by omega) (isB_take hB j)
    by_cases hlt : j < n0
    · obtain ⟨b, off, rfl, _, hc⟩ := r0.row (by omega)
      have hcj := hc j hlt
      have hx : 0 ≤ bs[j]?.getD 0 ∧ bs[j]?.getD 0 ≤ 255 := by rw [List.getElem?_eq_getElem (by omega)]; exact hB _ (List.getElem_mem _)
      have hsn : chkN false 0 (bs.take (j + 1)) = fold16 (chkN false 0 (bs.take j) + heft (odd_ j) (bs[j]?.getD 0)) := by
        have e : bs.take (j + 1) = bs.take j ++ [bs[j]?.getD 0] := by rw [List.take_succ_eq_append_getElem (by omega)]; simp [show j < bs.length by omega]
        rw [e, chkN_snoc]
        simp [show min j bs.length = j by omega]
      generalize bs[j]?.getD 0 = x at *
      generalize chkN false 0 (bs.take j) = n at *
      have i0 : (0 : Int) ≤ (j : Int) := by omega
      have i1 : (j : Int) < (n0 : Int) := by omega
      have HS := Lib.hid hsn
      clear hsn hc
      have hf : ∀ y : Int, 0 ≤ y → y ≤ 65280 → (bits BinOp.and IntKind.u32 (n + y) 65535 + (n + y) / 65536) % 4294967296 = fold16 (n + y) := fun y h0 h1 => by
        rw [hand _ (by omega) (by omega), fold16]; omega
      have HF := Lib.hid hf
      clear hf hand
      rcases Nat.mod_two_eq_zero_or_one j with hp | hp
      · have hm : (j : Int).tmod 2 = 0 := by rw [Int.tmod_eq_emod_of_nonneg (by omega)]; omega
        have ho : odd_ j = false := by unfold odd_; rw [hp]; rfl
        have HO := Lib.hid ho
        clear ho
        go_wp2_with fail
        refine ⟨⟨j + 1, by omega, by go_num, ?_⟩, by simp [intOf]; omega⟩
        rw [HF.out _ (by omega) (by omega), HS.out, HO.out]; rfl
      · have hm : (j : Int).tmod 2 = 1 := by rw [Int.tmod_eq_emod_of_nonneg (by omega)]; omega
        have ho : odd_ j = true := by unfold odd_; rw [hp]; rfl
        have HO := Lib.hid ho
        clear ho
        go_wp2_with fail
        refine ⟨⟨j + 1, by omega, by go_num, ?_⟩, by simp [intOf]; omega⟩
        rw [HF.out _ (by omega) (by omega), HS.out, HO.out]; rfl
    · obtain rfl : j = n0 := by omega
      have hd : chk bs = 65535 - chkN false 0 (bs.take j) := by rw [List.take_of_length_le (by omega)]; rfl
      have HD := Lib.hid hd
      clear hd hand
      generalize chkN false 0 (bs.take j) = n at *
      go_wp2_with fail
      go_ret
      have hn : bits .xor .u16 IntKind.u16.max n = 65535 - n := not16 n hb.1 hb.2
      rw [HD.out]
      exact ⟨congrArg (fun z => Ending.returned (Value.int .u16 z)) hn, rfl⟩
end Go.Proofs.Ytadpgodmkodgdaa
