/- The walk over slices.BinarySearchFunc at pieces whose types rise. -/
import Derived.Test.YtlcnjdpfijgcdaaPDel
namespace Go.Proofs.Ytlcnjdpfijgcdaa
open Go.RowKit
set_option linter.unusedSimpArgs false
set_option linter.unusedVariables false

def hasT (ts : List Int) (t : Int) : Bool := decide (t ∈ ts)
set_option maxHeartbeats 1000000 in
theorem withc_any (u t : Int) (B : Option Addr) (m c : Nat) (w : World) (hu : 0 ≤ u ∧ u ≤ 65535) (ht : 0 ≤ t ∧ t ≤ 65535) :
    Calls Try.prog 56 #[.agg #[.int .u16 u, .slice B m c], .int .u16 t] w fun e w' => e = .returned (.int .i64 (u - t)) ∧ Below w.heap.size w w' := by
  have h1 : IntKind.i64.wrap u = u := IntWalk.i64_in _ (by omega)
  have h2 : IntKind.i64.wrap t = t := IntWalk.i64_in _ (by omega)
  have h3 : IntKind.i64.wrap (u - t) = u - t := IntWalk.i64_in _ (by omega)
  go_enter Try.func56, Try.ntmps56
  go_wp2_with fail
  go_ret
  exact ⟨rfl, new_belowB w _⟩

set_option maxRecDepth 100000 in
set_option maxHeartbeats 2000000 in
theorem bins_any (A : Option Addr) (n c : Nat) (t : Int) (ts : List Int) (w : World) (h : TyRow w A n ts) (hok : ∀ u ∈ ts, 0 ≤ u ∧ u ≤ 65535) (ht : 0 ≤ t ∧ t ≤ 65535)
    (hr : ∀ (i j : Nat) (u v : Int), i < j → ts[i]? = some u → ts[j]? = some v → u < v) :
    Calls Try.prog 55 #[.slice A n c, .int .u16 t, .func (.func 56) #[] #[]] w fun e w' => ∃ i : Nat, e = .returned (.tuple #[.int .i64 (i : Int), .bool (hasT ts t)]) ∧ i ≤ n ∧ (∀ k u, k < i → ts[k]? = some u → u < t) ∧ (∀ k u, i ≤ k → ts[k]? = some u → t ≤ u) ∧ Below w.heap.size w w' := by
  have hl := h.1
  have hbig := h.2.1
  have HT := Lib.hid h
  have HL := Lib.hid hl
  have HOK := Lib.hid hok
  have HR := Lib.hid hr
  clear h hl hok hr
  go_enter Try.func55, Try.ntmps55
  go_wp2_with fail
  go_loopw [9, 10] (fun a b wr => ∃ i j : Nat, i ≤ j ∧ j ≤ n ∧ a = .int .i64 i ∧ b = .int .i64 j ∧ (∀ k u, k < i → ts[k]? = some u → u < t) ∧ (∀ k u, j ≤ k → ts[k]? = some u → t ≤ u) ∧ Below w.heap.size w wr) (fun a b _ => (intOf b - intOf a).toNat)
  case atStart => exact ⟨0, n, Nat.zero_le _, Nat.le_refl _, rfl, rfl, fun k u hk => absurd hk (by omega), fun k u hk hu => absurd (List.getElem?_eq_some_iff.1 hu).1 (by have := HL.out; omega), Below.refl _ _⟩
  case round =>
    obtain ⟨i, j, hij, hjn, rfl, rfl, hlo, hhi, hB⟩ := hrel
    have HLO := Lib.hid hlo
    have HHI := Lib.hid hhi
    have HB := Lib.hid hB
    have a0 : (0 : Int) ≤ (i : Int) := by omega
    have b0 : (0 : Int) ≤ (j : Int) := by omega
    clear hlo hhi
    by_cases hlt : i < j
    · obtain ⟨m, hm⟩ : ∃ m, (i + j) / 2 = m := ⟨_, rfl⟩
      have hmi : i ≤ m := by omega
      have hmj : m < j := by omega
      obtain ⟨b, off, rfl, hb, hc⟩ := (HT.out.below hB).2.2 (by omega)
      obtain ⟨u, B, bm, d, h1, h2, h3⟩ := hc m (by omega)
      have hu := HOK.out u (List.mem_of_getElem? h1)
      have hcl := withc_any u t B bm d wr hu ht
      have w1 : IntKind.i64.wrap ((i : Int) + (j : Int)) = (i : Int) + (j : Int) := IntWalk.i64_in _ (by omega)
      have w2 : IntKind.u64.wrap ((i : Int) + (j : Int)) = (i : Int) + (j : Int) := IntWalk.u64_in _ (by omega)
      have w3 : ((i : Int) + (j : Int)) / 2 = (m : Int) := by omega
      have w4 : IntKind.i64.wrap (m : Int) = (m : Int) := IntWalk.i64_in _ (by omega)
      have w5 : IntKind.i64.wrap ((m : Int) + 1) = (m : Int) + 1 := IntWalk.i64_in _ (by omega)
      have m0 : (0 : Int) ≤ (m : Int) := by omega
      have m1 : (m : Int) < (n : Int) := by omega
      have l1 : (i : Int) < (j : Int) := by omega
      have H1 := Lib.hid h1
      have HC := Lib.hid hcl
      clear hB hc h1 hcl hu
      by_cases hut : u - t < 0
      · go_wp2_with fail
        refine HC.out.mono ?_; rintro e w1 ⟨rfl, hB1⟩
        have HB1 := Lib.hid (HB.out.trans (hB1.mono HB.out.size))
        clear hB1
        go_wp2_with fail
        go_roundw
        case rel =>
          refine ⟨m + 1, j, by omega, hjn, by go_num, rfl, fun k v hk hv => ?_, HHI.out, HB1.out⟩
          rcases Nat.lt_or_ge k m with h | h
          · have := HR.out k m v u h hv H1.out
            omega
          · obtain rfl : k = m := by omega
            rw [H1.out] at hv
            injection hv with hv
            omega
        case measure => simp [intOf]; omega
      · go_wp2_with fail
        refine HC.out.mono ?_; rintro e w1 ⟨rfl, hB1⟩
        have HB1 := Lib.hid (HB.out.trans (hB1.mono HB.out.size))
        clear hB1
        go_wp2_with fail
        go_roundw
        case rel =>
          refine ⟨i, m, by omega, by omega, rfl, rfl, HLO.out, fun k v hk hv => ?_, HB1.out⟩
          rcases Nat.lt_or_ge m k with h | h
          · have := HR.out m k u v h H1.out hv
            omega
          · obtain rfl : k = m := by omega
            rw [H1.out] at hv
            injection hv with hv
            omega
        case measure => simp [intOf]; omega
    · obtain rfl : i = j := by omega
      by_cases hin : i < n
      · obtain ⟨b, off, rfl, hb, hc⟩ := (HT.out.below hB).2.2 (by omega)
        obtain ⟨u, B, bm, d, h1, h2, h3⟩ := hc i hin
        have hu := HOK.out u (List.mem_of_getElem? h1)
        have hcl := withc_any u t B bm d wr hu ht
        have hhas : hasT ts t = (u - t == 0) := by
          by_cases e : u = t
          · subst e
            rw [hasT, decide_eq_true (List.mem_of_getElem? h1), eq_comm]
            simp
          · have h4 : ¬ t ∈ ts := fun hm => by
              obtain ⟨k, hk⟩ := List.mem_iff_getElem?.1 hm
              rcases Nat.lt_or_ge k i with h | h
              · have := HLO.out k t h hk; omega
              · rcases Nat.lt_or_ge i k with h5 | h5
                · have h6 := HR.out i k u t h5 h1 hk
                  have h7 := HHI.out i u (Nat.le_refl _) h1
                  omega
                · obtain rfl : k = i := by omega
                  rw [h1] at hk
                  injection hk with hk
                  exact e hk
            rw [hasT, decide_eq_false h4, eq_comm]
            exact beq_eq_false_iff_ne.2 (by omega)
        obtain ⟨q, hq⟩ : ∃ q, (u - t == 0) = q := ⟨_, rfl⟩
        rw [hq] at hhas
        have HHAS := Lib.hid hhas
        have HC := Lib.hid hcl
        have l1 : (i : Int) < (n : Int) := by omega
        clear hB hc h1 hcl hu hhas
        go_wp2_with fail
        refine HC.out.mono ?_; rintro e w1 ⟨rfl, hB1⟩
        have HB1 := Lib.hid (HB.out.trans (hB1.mono HB.out.size))
        clear hB1
        go_wp2_with fail
        go_ret2
        exact ⟨i, by rw [HHAS.out]; rfl, by omega, HLO.out, HHI.out, HB1.out⟩
      · obtain rfl : i = n := by omega
        have hhas : hasT ts t = false := by
          rw [hasT, decide_eq_false]
          intro hm
          obtain ⟨k, hk⟩ := List.mem_iff_getElem?.1 hm
          have hki : k < i := by have := (List.getElem?_eq_some_iff.1 hk).1; have := HL.out; omega
          have := HLO.out k t hki hk; omega
        have HHAS := Lib.hid hhas
        clear hB hhas
        go_wp2_with fail
        go_ret2
        exact ⟨i, by rw [HHAS.out]; rfl, Nat.le_refl _, HLO.out, HHI.out, HB.out⟩
end Go.Proofs.Ytlcnjdpfijgcdaa
