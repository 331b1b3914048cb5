/- The walks over packets.may, params.may, params.filled; pieces in memory; The walk over packets.may. -/
import Derived.Test.YtadpgodmkodgdaaXRGuidesRoom5
import Derived.Test.YtadpgodmkodgdaaXRGuidesRoom17
namespace Go.Proofs.Ytadpgodmkodgdaa
open Go.RowKit
set_option linter.unusedSimpArgs false
set_option linter.unusedVariables false

theorem filled_any (n : Nat) (w : World) (h : n ≤ 140737488351232) : Calls Try.prog 67 #[.int .i64 n] w fun e w' => e = .returned (.int .i64 (fill8 n)) ∧ w = w' := by
  have e1 : IntKind.i64.wrap ((n : Int) + 8) = (n : Int) + 8 := IntWalk.i64_in _ (by omega)
  have e2 : IntKind.i64.wrap ((n : Int) + 8 - 1) = (n : Int) + 8 - 1 := IntWalk.i64_in _ (by omega)
  go_enter Try.func67, Try.ntmps67
  go_wp2_with fail
  go_ret
  exact ⟨ret_int (by unfold fill8; omega), rfl⟩

/-- A list of pieces in memory. -/
structure Ps (w : World) (A : Option Addr) (n : Nat) (ps : List Piece) : Prop where
  len : ps.length = n
  big : n ≤ 4398046510976
  row : 0 < n → ∃ b off, A = some ⟨b, off, none⟩ ∧ b < w.heap.size ∧ ∀ j, j < n → ∃ t body B m c, ps[j]? = some (t, body) ∧ (0 ≤ t ∧ t ≤ 65535) ∧ w.cell? ⟨b, off + j * 2, none⟩ = some (.int .u16 t) ∧ w.cell? ⟨b, off + j * 2 + 1, none⟩ = some (.slice B m c) ∧ Rd w .u8 B m body ∧ m ≤ c ∧ (B = none → c = 0)
theorem Ps.below {w w' : World} {A : Option Addr} {n : Nat} {ps : List Piece} (h : Ps w A n ps) (hB : Below w.heap.size w w') : Ps w' A n ps :=
  ⟨h.len, h.big, fun h0 => by
    obtain ⟨b, off, e, hb, hc⟩ := h.row h0
    refine ⟨b, off, e, Nat.lt_of_lt_of_le hb hB.size, fun j hj => ?_⟩
    obtain ⟨t, body, B, m, c, h1, h2, h3, h4, h5, h6, h7⟩ := hc j hj
    exact ⟨t, body, B, m, c, h1, h2, (hB.cell (p := ⟨b, off + j * 2, none⟩) hb).trans h3, (hB.cell (p := ⟨b, off + j * 2 + 1, none⟩) hb).trans h4, h5.below hB, h6, h7⟩⟩
theorem ps_nil (w : World) : Ps w none 0 [] := ⟨rfl, by omega, fun h => absurd h (by omega)⟩
/-- The type of the last piece of a beginning. -/
def lastT (ps : List Piece) (k : Nat) : Int := if k = 0 then 0 else ((ps[k - 1]?).map (·.1)).getD 0
theorem rises_take : ∀ (ps : List Piece) (last : Int) (k : Nat), k < ps.length → rises last (ps.take k) = true → ∀ p, ps[k]? = some p → rises last (ps.take (k + 1)) = decide ((if k = 0 then last else ((ps[k - 1]?).map (·.1)).getD 0) < p.1)
  | [], _, k, h, _, _, _ => by simp at h
  | q :: ps, last, 0, _, _, p, hp => by
    simp at hp; subst hp; simp [rises]
  | q :: ps, last, k + 1, h, hr, p, hp => by
    simp only [List.take_succ_cons, rises, Bool.and_eq_true, decide_eq_true_eq] at hr ⊢
    have := rises_take ps q.1 k (by simpa using h) hr.2 p (by simpa using hp)
    rw [this, decide_eq_true hr.1, Bool.true_and]
    cases k with
    | zero => simp
    | succ k => simp
theorem rises_more : ∀ (ps : List Piece) (last : Int) (k : Nat), rises last (ps.take k) = false → rises last ps = false
  | [], _, k, h => by simp [rises] at h
  | q :: ps, last, 0, h => by simp [rises] at h
  | q :: ps, last, k + 1, h => by
    simp only [List.take_succ_cons, rises, Bool.and_eq_false_iff] at h ⊢
    rcases h with h | h
    · exact .inl h
    · exact .inr (rises_more ps q.1 k h)

set_option maxRecDepth 100000 in
set_option maxHeartbeats 1000000 in
theorem pamay_any (A0 : Option Addr) (n0 c0 : Nat) (ps : List Piece) (w : World) (h : Ps w A0 n0 ps) :
    Calls Try.prog 59 #[.slice A0 n0 c0] w fun e w' => e = .returned (.bool (rises 0 ps)) ∧ Below w.heap.size w w' := by
  have hbig := h.big
  have hl := h.len
  go_enter Try.func59, Try.ntmps59
  go_wp2_with fail
  go_loopw [3, 8] (fun t i wr => ∃ k : Nat, k ≤ n0 ∧ i = .int .i64 k ∧ rises 0 (ps.take k) = true ∧ t = .int .u16 (if k = 0 then 0 else ((ps[k - 1]?).map (·.1)).getD 0) ∧ Below w.heap.size w wr) (fun _ i _ => n0 - (intOf i).toNat)
  case atStart => exact ⟨0, Nat.zero_le _, rfl, by simp [rises], rfl, Below.refl _ _⟩
  case round =>
    obtain ⟨k, hk, rfl, hr, rfl, hB⟩ := hrel
    by_cases hlt : k < n0
    · obtain ⟨b, off, rfl, _, hc⟩ := (h.below hB).row (by omega)
      obtain ⟨t, body, B, m, c, h1, h2, h3, h4, _, _, _⟩ := hc k hlt
      have hrt := rises_take ps 0 k (by omega) hr (t, body) h1
      have hmo := rises_more ps 0 (k + 1)
      have hnx : (if k + 1 = 0 then 0 else ((ps[k + 1 - 1]?).map (·.1)).getD 0) = t := by simp [h1]
      generalize (if k = 0 then (0 : Int) else ((ps[k - 1]?).map (·.1)).getD 0) = last at *
      have i0 : (0 : Int) ≤ (k : Int) := by omega
      have i1 : (k : Int) < (n0 : Int) := by omega
      have HRT := Lib.hid hrt
      have HMO := Lib.hid hmo
      have HNX := Lib.hid hnx
      have HBB := Lib.hid hB
      have HR := Lib.hid hr
      have H1 := Lib.hid h1
      clear hrt hmo hnx hB hr h1 hc hl
      by_cases hlast : last < t
      · go_wp2_with fail
        refine ⟨⟨k + 1, by omega, by go_num, by rw [HRT.out]; simpa using hlast, by rw [HNX.out], HBB.out.alloc HBB.out.size _⟩, by simp [intOf]; omega⟩
      · go_wp2_with fail
        go_ret
        refine ⟨ret_bool ?_, HBB.out.alloc HBB.out.size _⟩
        exact (HMO.out (by rw [HRT.out]; simpa using hlast)).symm
    · obtain rfl : k = n0 := by omega
      have hp : ps.take k = ps := by rw [List.take_of_length_le (by omega)]
      rw [hp] at hr
      have HR := Lib.hid hr
      clear hr
      generalize (if k = 0 then (0 : Int) else ((ps[k - 1]?).map (·.1)).getD 0) = last at *
      go_wp2_with fail
      go_ret
      exact ⟨ret_bool HR.out.symm, hB⟩
end Go.Proofs.Ytadpgodmkodgdaa

namespace Go.Proofs.Ytadpgodmkodgdaa
open Go.RowKit
set_option linter.unusedSimpArgs false
set_option linter.unusedVariables false

theorem pkmay_any (k : Int) (w : World) (h0 : 0 ≤ k) : Calls Try.prog 50 #[.int .u8 k] w fun e w' => e = .returned (.bool (decide (1 ≤ k ∧ k ≤ 8))) ∧ w = w' := by
  by_cases h : 1 ≤ k ∧ k ≤ 8
  · rw [decide_eq_true h]
    obtain rfl | rfl | rfl | rfl | rfl | rfl | rfl | rfl : k = 1 ∨ k = 2 ∨ k = 3 ∨ k = 4 ∨ k = 5 ∨ k = 6 ∨ k = 7 ∨ k = 8 := by omega
    all_goals
      go_enter Try.func50, Try.ntmps50
      go_wp2_with fail
      go_ret
      exact ⟨rfl, rfl⟩
  · rw [decide_eq_false h]
    have k1 : k ≠ 1 := by omega
    have k2 : k ≠ 2 := by omega
    have k3 : k ≠ 3 := by omega
    have k4 : k ≠ 4 := by omega
    have k5 : k ≠ 5 := by omega
    have k6 : k ≠ 6 := by omega
    have k7 : k ≠ 7 := by omega
    have k8 : k ≠ 8 := by omega
    clear h
    go_enter Try.func50, Try.ntmps50
    go_wp2_with fail
    go_ret
    exact ⟨rfl, rfl⟩
end Go.Proofs.Ytadpgodmkodgdaa
