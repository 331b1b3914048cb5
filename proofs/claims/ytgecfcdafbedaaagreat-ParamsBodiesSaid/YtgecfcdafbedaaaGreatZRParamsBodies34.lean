/- The walk over the document's Told: the number that a row's bytes tell; The walk over the document's Get of a number. -/
import Derived.Test.YtgecfcdafbedaaaGreatZRParamsBodies13
import Derived.BigQuiet
import Derived.Test.YtgecfcdafbedaaaGreatZRParamsBodies18
namespace Go.Proofs.YtgecfcdafbedaaaGreat
open Go.RowKit
set_option linter.unusedSimpArgs false
set_option linter.unusedVariables false

theorem Rd.cut {w : World} {A : Option Addr} {n : Nat} {xs : List Int} (h : Rd w .u8 A n xs) (m : Nat) (hm : m ≤ n) : Rd w .u8 A m (xs.take m) := by
  rcases Nat.eq_zero_or_pos n with h0 | h0
  · obtain rfl : m = 0 := by omega
    exact ⟨by simp, by omega, by simp, fun h => absurd h (by omega)⟩
  · obtain ⟨b, off, rfl, hb, hc⟩ := h.row h0
    have := h.sub 0 m (by omega)
    simpa using this

set_option maxRecDepth 100000 in
set_option maxHeartbeats 1000000 in
theorem told_any (n : Nat) : ∀ (A : Option Addr) (c : Nat) (bs : List Int) (w : World), n ≤ 8 → Rd w .u8 A n bs → n ≤ c → Calls Tryz.prog 75 #[.slice A n c] w fun e w' => e = .returned (.int .u64 (told bs)) ∧ Drawn w w' := by
  induction n with
  | zero =>
    intro A c bs w _ r0 _
    have h0 := List.eq_nil_of_length_eq_zero r0.len
    subst h0
    clear r0
    go_enter Tryz.func75, Tryz.ntmps75
    go_wp2_with fail
    go_ret
    exact ⟨rfl, Drawn.refl _⟩
  | succ n ih =>
    intro A c bs w hn r0 hc
    have hl := r0.len
    have hbig := r0.big
    obtain ⟨b, off, rfl, _, hcell⟩ := r0.row (by omega)
    have hy := hcell n (by omega)
    have hcall : ∀ j : Nat, Calls Tryz.prog 75 #[.slice (some ⟨b, off, none⟩) n c] (w.drewN j) fun e W' => e = .returned (.int .u64 (told (bs.take n))) ∧ ∃ m, W' = w.drewN m := fun j => by
      have rW : Rd (w.drewN j) .u8 (some ⟨b, off, none⟩) (n + 1) bs := r0.below (below_drawn (Below.refl _ _) ⟨j, rfl⟩)
      refine (ih _ c _ (w.drewN j) (by omega) (rW.cut n (by omega)) (by omega)).mono ?_
      rintro e W' ⟨rfl, q, rfl⟩
      exact ⟨rfl, ((Drawn.refl w).step j).step q⟩
    have htb := told8 (bs.take n) (fun x hx => rd_bytes r0 x (List.mem_of_mem_take hx)) (by simp; omega)
    have hyb : 0 ≤ bs[n]?.getD 0 ∧ bs[n]?.getD 0 ≤ 255 := wf_bounds_u8 (r0.mem (by omega))
    have hts : told bs = 256 * told (bs.take n) + bs[n]?.getD 0 := by
      have e : bs = bs.take n ++ [bs[n]?.getD 0] := by
        have := take_snoc bs n (by omega) 0
        rw [List.take_of_length_le (by omega)] at this
        exact this
      exact (congrArg told e).trans (told_snoc _ _)
    rw [hts]
    have hsl : ∀ W : World, (Instr.slice 22 (.slice (some ⟨b, off, none⟩) (n + 1) c) none (some (.int .i64 (n : Int))) none).run Tryz.prog W = .ok (.slice (some ⟨b, off, none⟩) n c) W := fun W => slice_to W _ (n + 1) c n (by omega)
    generalize told (bs.take n) = T at *
    generalize bs[n]?.getD 0 = y at *
    obtain ⟨t0, t1⟩ := htb
    obtain ⟨y0, y1⟩ := hyb
    have HC := Lib.hid hcall
    have HD := Lib.hid (Drawn.refl w)
    obtain ⟨m, hm⟩ : ∃ m, n + 1 = m := ⟨_, rfl⟩
    rw [hm] at hsl ⊢
    have i0 : (0 : Int) ≤ (n : Int) := by omega
    have i1 : (n : Int) < (m : Int) := by omega
    have q0 : ((m : Int) == 0) = false := by rw [beq_eq_false_iff_ne]; omega
    have hw1 : IntKind.i64.wrap ((m : Int) - 1) = (n : Int) := by rw [IntWalk.i64_in _ (by omega)]; omega
    have hw1b : (m : Int) - 1 = (n : Int) := by omega
    have hw2 : IntKind.u64.wrap (256 * T) = 256 * T := IntWalk.u64_in _ (by omega)
    have hw3 : IntKind.u64.wrap (256 * T + y) = 256 * T + y := IntWalk.u64_in _ (by omega)
    have hw4 : IntKind.u64.wrap y = y := IntWalk.u64_in _ (by omega)
    have hmb : m ≤ 8 := by omega
    clear ih hcall hts r0 hcell hl hc hm hn hbig
    go_enter Tryz.func75, Tryz.ntmps75
    go_wp2_with fail
    go_quiet (first | (go_at_call 75; exact HC.out _))
    go_wp2_with fail
    go_ret
    exact ⟨rfl, _, rfl⟩
end Go.Proofs.YtgecfcdafbedaaaGreat

namespace Go.Proofs.YtgecfcdafbedaaaGreat
open Go.RowKit
set_option linter.unusedSimpArgs false
set_option linter.unusedVariables false

theorem drawn_below {w w' : World} (h : Drawn w w') : Below w.heap.size w w' := below_drawn (Below.refl _ _) h

set_option maxRecDepth 100000 in
set_option maxHeartbeats 1000000 in
theorem refget_any (A0 : Option Addr) (n0 c0 : Nat) (bs : List Int) (k : Int) (w : World) (r0 : Rd w .u8 A0 n0 bs) (l0 : n0 ≤ c0) :
    Calls Tryz.prog 44 #[.slice A0 n0 c0, .int .i64 k] w fun e w' => e = .returned (.tuple #[.int .u64 (getN bs n0 k), .int .i64 (getE n0 k)]) ∧ Below w.heap.size w w' := by
  have hbig := r0.big
  by_cases k0 : k < 0
  · have e1 : getE n0 k = 1 := by unfold getE; rw [if_pos (.inl k0)]
    have e2 : getN bs n0 k = 0 := by unfold getN; rw [e1]; rfl
    rw [e1, e2]
    clear e1 e2
    go_enter Tryz.func44, Tryz.ntmps44
    go_wp2_with fail
    go_ret2
    exact ⟨rfl, Below.refl _ _⟩
  by_cases k8 : 8 < k
  · have e1 : getE n0 k = 1 := by unfold getE; rw [if_pos (.inr k8)]
    have e2 : getN bs n0 k = 0 := by unfold getN; rw [e1]; rfl
    rw [e1, e2]
    clear e1 e2
    go_enter Tryz.func44, Tryz.ntmps44
    go_wp2_with fail
    go_ret2
    exact ⟨rfl, Below.refl _ _⟩
  obtain ⟨m, rfl⟩ := Int.eq_ofNat_of_zero_le (show 0 ≤ k by omega)
  by_cases ks : n0 < m
  · have e1 : getE n0 (m : Int) = 5 := by unfold getE; rw [if_neg (by omega), if_pos (by omega)]
    have e2 : getN bs n0 (m : Int) = 0 := by unfold getN; rw [e1]; rfl
    rw [e1, e2]
    clear e1 e2
    go_enter Tryz.func44, Tryz.ntmps44
    go_wp2_with fail
    go_ret2
    exact ⟨rfl, Below.refl _ _⟩
  · have e1 : getE n0 (m : Int) = 0 := by unfold getE; rw [if_neg (by omega), if_neg (by omega)]
    have e2 : getN bs n0 (m : Int) = told (bs.take m) := by unfold getN; rw [e1]; simp
    rw [e1, e2]
    clear e1 e2
    have hsl : ∀ W : World, (Instr.slice 22 (.slice A0 n0 c0) none (some (.int .i64 (m : Int))) none).run Tryz.prog W = .ok (.slice A0 m c0) W := fun W => slice_to W _ n0 c0 m (by omega)
    have HT := Lib.hid (told_any m A0 c0 (bs.take m) w (by omega) (r0.cut m (by omega)) (by omega))
    go_enter Tryz.func44, Tryz.ntmps44
    go_wp2_with fail
    refine HT.out.mono ?_; rintro e w1 ⟨rfl, hD⟩
    go_wp2_with fail
    go_ret2
    exact ⟨rfl, drawn_below hD⟩

end Go.Proofs.YtgecfcdafbedaaaGreat
