/- The walks over nums.Put and nums.PutLong. -/
import Derived.Test.YtpoljlmkeldbpaaNRow
namespace Go.Proofs.Ytpoljlmkeldbpaa
open Go.RowKit
set_option linter.unusedSimpArgs false
set_option linter.unusedVariables false

theorem Made.before {w w1 w' : World} {bytes : List Int} {e : Ending} (h : Made w1 bytes e w') (hb : Below w.heap.size w w1) : Made w bytes e w' := by
  obtain ⟨g, hg, he, hk, hB⟩ := h
  exact ⟨g, Nat.le_trans hb.size hg, he, hk, hb.trans (hB.mono hb.size)⟩

/-- How many bytes Put takes. -/
def putMany (k : Int) : Nat := (max 0 (min 8 k)).toNat

set_option maxHeartbeats 400000 in
theorem put_any (A0 : Option Addr) (n0 c0 : Nat) (bs : List Int) (n k : Int) (w : World) (r0 : Rd w .u8 A0 n0 bs) (l0 : n0 ≤ c0) (h0 : 0 ≤ n) (h1 : n ≤ 18446744073709551615) :
    Calls Try.prog 7 #[.slice A0 n0 c0, .int .u64 n, .int .i64 k] w (Made w (bs ++ be n (putMany k))) := by
  have hB1 : Below w.heap.size w (w.alloc (.cells #[.int .u64 n] 22)) := (Below.refl _ _).alloc (Nat.le_refl _) _
  have r1 := r0.below hB1
  have hrow : ∀ each : Nat, each ≤ 8 → Calls Try.prog 16 #[.slice A0 n0 c0, .int .i64 (each : Int), .slice (some ⟨w.heap.size, 0, none⟩) 1 1] (w.alloc (.cells #[.int .u64 n] 22)) (Made w (bs ++ be n each)) := fun each he => by
    have := row_any A0 n0 c0 bs each w.heap.size 1 1 [⟨n, h0, h1⟩] (w.alloc (.cells #[.int .u64 n] 22)) r1 l0 he rfl (by omega) (by simp)
      (fun j hj => by obtain rfl : j = 0 := by omega
                      exact (Blk.new w 22 [.int .u64 n]).cell 0) [n] rfl
    refine this.mono fun e w' hm => ?_
    have hm' : Made (w.alloc (.cells #[.int .u64 n] 22)) (bs ++ be n each) e w' := by simpa [flat] using hm
    exact hm'.before hB1
  have HR := Lib.hid hrow
  clear hrow r1
  have fin : ∀ (each : Nat) (e : Ending) (w' : World), putMany k = each → Made w (bs ++ be n each) e w' → Made w (bs ++ be n (putMany k)) e w' := fun each e w' he hm => by rw [he]; exact hm
  have FIN := Lib.hid fin
  clear fin
  by_cases k0 : k ≤ 0
  · have e1 : putMany k = 0 := by unfold putMany; omega
    have HE := Lib.hid e1
    clear e1
    go_enter Try.func7, Try.ntmps7
    go_wp2_with fail
    refine (HR.out 0 (by omega)).mono ?_
    rintro e w' ⟨g, hg, rfl, hk, hB⟩
    go_wp2_with fail
    go_ret
    exact FIN.out 0 _ _ HE.out ⟨g, hg, by simp, hk, hB⟩
  · by_cases k8 : 8 ≤ k
    · have e1 : putMany k = 8 := by unfold putMany; omega
      have HE := Lib.hid e1
      clear e1
      go_enter Try.func7, Try.ntmps7
      go_wp2_with fail
      refine (HR.out 8 (by omega)).mono ?_
      rintro e w' ⟨g, hg, rfl, hk, hB⟩
      go_wp2_with fail
      go_ret
      exact FIN.out 8 _ _ HE.out ⟨g, hg, by simp, hk, hB⟩
    · obtain ⟨m, rfl⟩ := Int.eq_ofNat_of_zero_le (show 0 ≤ k by omega)
      have e1 : putMany (m : Int) = m := by unfold putMany; omega
      have HE := Lib.hid e1
      clear e1
      go_enter Try.func7, Try.ntmps7
      go_wp2_with fail
      refine (HR.out m (by omega)).mono ?_
      rintro e w' ⟨g, hg, rfl, hk, hB⟩
      go_wp2_with fail
      go_ret
      exact FIN.out m _ _ HE.out ⟨g, hg, by simp, hk, hB⟩

/-- A long number's words, the lowest first. -/
def longVal (a b c d : Int) : Value := .agg #[.int .u64 a, .int .u64 b, .int .u64 c, .int .u64 d]
set_option maxHeartbeats 1000000 in
theorem putlong_any (A0 : Option Addr) (n0 c0 : Nat) (bs : List Int) (a b c d : Int) (w : World) (r0 : Rd w .u8 A0 n0 bs) (l0 : n0 ≤ c0)
    (ha : 0 ≤ a ∧ a ≤ 18446744073709551615) (hb : 0 ≤ b ∧ b ≤ 18446744073709551615) (hc : 0 ≤ c ∧ c ≤ 18446744073709551615) (hd : 0 ≤ d ∧ d ≤ 18446744073709551615) :
    Calls Try.prog 11 #[.slice A0 n0 c0, longVal a b c d] w (Made w (bs ++ flat [d, c, b, a] 8)) := by
  have hB1 : Below w.heap.size w ((w.alloc (.cells #[.int .u64 a, .int .u64 b, .int .u64 c, .int .u64 d] 29)).alloc (.cells #[.int .u64 d, .int .u64 c, .int .u64 b, .int .u64 a] 22)) := ((Below.refl _ _).alloc (Nat.le_refl _) _).alloc (by simp) _
  have r1 := r0.below hB1
  have hrow : Calls Try.prog 16 #[.slice A0 n0 c0, .int .i64 8, .slice (some ⟨w.heap.size + 1, 0, none⟩) 4 4] ((w.alloc (.cells #[.int .u64 a, .int .u64 b, .int .u64 c, .int .u64 d] 29)).alloc (.cells #[.int .u64 d, .int .u64 c, .int .u64 b, .int .u64 a] 22)) (Made w (bs ++ flat [d, c, b, a] 8)) := by
    have hbl := Blk.new (w.alloc (.cells #[.int .u64 a, .int .u64 b, .int .u64 c, .int .u64 d] 29)) 22 [.int .u64 d, .int .u64 c, .int .u64 b, .int .u64 a]
    rw [World.size_alloc] at hbl
    have := row_any A0 n0 c0 bs 8 (w.heap.size + 1) 4 4 [⟨d, hd⟩, ⟨c, hc⟩, ⟨b, hb⟩, ⟨a, ha⟩] _ r1 l0 (by omega) rfl (by omega) (by simp)
      (fun j hj => by
        rw [hbl.cell]
        rcases j with _ | _ | _ | _ | j
        · rfl
        · rfl
        · rfl
        · rfl
        · omega) [d, c, b, a] rfl
    exact this.mono fun e w' hm => Made.before hm hB1
  have HR := Lib.hid hrow
  clear hrow r1 ha hb hc hd
  unfold longVal
  obtain ⟨bytes, hbytes⟩ : ∃ l, bs ++ flat [d, c, b, a] 8 = l := ⟨_, rfl⟩
  rw [hbytes] at HR ⊢
  have HBY := Lib.hid hbytes
  clear hbytes
  go_enter Try.func11, Try.ntmps11
  go_wp2_with fail
  refine (HR.out).mono ?_
  rintro e w' ⟨g, hg, rfl, hk, hB⟩
  go_wp2_with fail
  go_ret
  exact ⟨g, hg, rfl, hk, hB⟩
end Go.Proofs.Ytpoljlmkeldbpaa
