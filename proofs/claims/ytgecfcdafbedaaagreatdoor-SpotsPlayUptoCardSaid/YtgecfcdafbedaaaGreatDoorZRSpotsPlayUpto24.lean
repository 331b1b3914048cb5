/- slices.Values of spots, called; The walks over nums.Put. -/
import Derived.Test.YtgecfcdafbedaaaGreatDoorZRSpotsPlayUpto22
import Derived.Test.YtgecfcdafbedaaaGreatDoorZRSpotsPlayUpto6
namespace Go.Proofs.YtgecfcdafbedaaaGreatDoor
open Go.RowKit
set_option linter.unusedSimpArgs false
set_option linter.unusedVariables false

theorem val_any (A : Option Addr) (len cap : Nat) (w : World) : Calls Tryz.prog 85 #[.slice A len cap] w fun e w' => e = .returned (.func (.func 122) #[] #[.pointer (some ⟨w.heap.size, 0, none⟩)]) ∧ w' = w.alloc (.cells #[.slice A len cap] 50) :=
  (callsIn_wide (n := 3)).1 (val_in Fence.wide 3 trivial rfl A len cap w)

end Go.Proofs.YtgecfcdafbedaaaGreatDoor

namespace Go.Proofs.YtgecfcdafbedaaaGreatDoor
open Go.RowKit
set_option linter.unusedSimpArgs false
set_option linter.unusedVariables false

theorem Made.before {w w1 w' : World} {bytes : List Int} {e : Ending} (h : Made w1 bytes e w') (hb : Below w.heap.size w w1) : Made w bytes e w' := by
  obtain ⟨g, hg, he, hk, hB⟩ := h
  exact ⟨g, Nat.le_trans hb.size hg, he, hk, hb.trans (hB.mono hb.size)⟩

/-- How many bytes Put takes. -/
def putMany (k : Int) : Nat := (max 0 (min 8 k)).toNat

set_option maxHeartbeats 400000 in
theorem put_any (A0 : Option Addr) (n0 c0 : Nat) (bs : List Int) (n k : Int) (w : World) (r0 : Rd w .u8 A0 n0 bs) (l0 : n0 ≤ c0) (h0 : 0 ≤ n) (h1 : n ≤ 18446744073709551615) :
    Calls Tryz.prog 87 #[.slice A0 n0 c0, .int .u64 n, .int .i64 k] w (Made w (bs ++ be n (putMany k))) := by
  have hB1 : Below w.heap.size w (w.alloc (.cells #[.int .u64 n] 99)) := (Below.refl _ _).alloc (Nat.le_refl _) _
  have r1 := r0.below hB1
  have hrow : ∀ each : Nat, each ≤ 8 → Calls Tryz.prog 123 #[.slice A0 n0 c0, .int .i64 (each : Int), .slice (some ⟨w.heap.size, 0, none⟩) 1 1] (w.alloc (.cells #[.int .u64 n] 99)) (Made w (bs ++ be n each)) := fun each he => by
    have := row_any A0 n0 c0 bs each w.heap.size 1 1 [⟨n, h0, h1⟩] (w.alloc (.cells #[.int .u64 n] 99)) r1 l0 he rfl (by omega) (by simp)
      (fun j hj => by obtain rfl : j = 0 := by omega
                      exact (Blk.new w 99 [.int .u64 n]).cell 0) [n] rfl
    refine this.mono fun e w' hm => ?_
    have hm' : Made (w.alloc (.cells #[.int .u64 n] 99)) (bs ++ be n each) e w' := by simpa [flat] using hm
    exact hm'.before hB1
  have HR := Lib.hid hrow
  clear hrow r1
  have fin : ∀ (each : Nat) (e : Ending) (w' : World), putMany k = each → Made w (bs ++ be n each) e w' → Made w (bs ++ be n (putMany k)) e w' := fun each e w' he hm => by rw [he]; exact hm
  have FIN := Lib.hid fin
  clear fin
  by_cases k0 : k ≤ 0
  · have e1 : putMany k = 0 := by unfold putMany; omega
    have HE := Lib.hid e1
    clear e1
    go_enter Tryz.func87, Tryz.ntmps87
    go_wp2_with fail
    refine (HR.out 0 (by omega)).mono ?_
    rintro e w' ⟨g, hg, rfl, hk, hB⟩
    go_wp2_with fail
    go_ret
    exact FIN.out 0 _ _ HE.out ⟨g, hg, by simp, hk, hB⟩
  · by_cases k8 : 8 ≤ k
    · have e1 : putMany k = 8 := by unfold putMany; omega
      have HE := Lib.hid e1
      clear e1
      go_enter Tryz.func87, Tryz.ntmps87
      go_wp2_with fail
      refine (HR.out 8 (by omega)).mono ?_
      rintro e w' ⟨g, hg, rfl, hk, hB⟩
      go_wp2_with fail
      go_ret
      exact FIN.out 8 _ _ HE.out ⟨g, hg, by simp, hk, hB⟩
    · obtain ⟨m, rfl⟩ := Int.eq_ofNat_of_zero_le (show 0 ≤ k by omega)
      have e1 : putMany (m : Int) = m := by unfold putMany; omega
      have HE := Lib.hid e1
      clear e1
      go_enter Tryz.func87, Tryz.ntmps87
      go_wp2_with fail
      refine (HR.out m (by omega)).mono ?_
      rintro e w' ⟨g, hg, rfl, hk, hB⟩
      go_wp2_with fail
      go_ret
      exact FIN.out m _ _ HE.out ⟨g, hg, by simp, hk, hB⟩
end Go.Proofs.YtgecfcdafbedaaaGreatDoor
