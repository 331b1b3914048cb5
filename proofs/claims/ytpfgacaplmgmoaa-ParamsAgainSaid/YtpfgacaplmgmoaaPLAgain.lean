/- The law ParamsAgain: the walk. -/
import Derived.Test.YtpfgacaplmgmoaaPLive
namespace Go.Proofs.Ytpfgacaplmgmoaa
open Go.RowKit
set_option linter.unusedSimpArgs false
set_option linter.unusedVariables false

set_option maxRecDepth 100000 in
set_option maxHeartbeats 4000000 in
theorem paramsAgain_walk (A0 : Option Addr) (n0 c0 : Nat) (x0 : List Int) (w : World) (r0 : Rd w .u8 A0 n0 x0) (l0 : n0 ≤ c0) (e0 : A0 = none → c0 = 0) (m0 : c0 ≤ 140737488351232) (q0 : 0 < c0 → ∃ b off, A0 = some ⟨b, off, none⟩) :
    Calls Try.prog 4 #[.slice A0 n0 c0] w fun e w' => e = .returned (.bool true) ∧ Below w.heap.size w w' := by
  have hget := paget_any A0 n0 c0 x0 w r0 l0 e0
  have hb : ∀ x ∈ x0, 0 ≤ x ∧ x ≤ 255 := rd_bytes r0
  have HGET := Lib.hid hget
  have HR := Lib.hid r0
  have HB := Lib.hid hb
  clear hget r0 m0 q0 e0 hb
  go_enter Try.func4, Try.ntmps4
  go_wp2_with fail
  refine HGET.out.mono ?_
  rintro e w1 (⟨hne, rfl, hB1⟩ | ⟨A, h00, rfl, hps, hz, hB1⟩)
  · have HB1 := Lib.hid hB1
    generalize (paGet x0).1 = E at *
    clear hB1
    go_wp2_with fail
    refine (lives_true w1).mono ?_; rintro e w4 ⟨rfl, hB4⟩
    have HB4 := Lib.hid (HB1.out.trans (hB4.mono HB1.out.size))
    clear hB4
    go_wp2_with fail
    go_ret
    exact ⟨rfl, HB4.out⟩
  · obtain ⟨p1, p2, p3⟩ := paPut_get HB.out (show paGet x0 = (0, (paGet x0).2) by rw [← h00])
    have HB1 := Lib.hid hB1
    generalize (paGet x0).2 = ps at *
    have hput := paput_any A ps.length ps.length ps w1 hps.ps
    have HPUT := Lib.hid hput
    have P1 := Lib.hid p1
    have P2 := Lib.hid p2
    clear hput p1 p2 p3 hps hz h00 hB1
    generalize ps.length = L at *
    go_wp2_with fail
    refine HPUT.out.mono ?_
    rintro e w2 (⟨hne, _⟩ | ⟨A2, _, rfl, hr, hz2, hg, hB2⟩)
    · exact absurd P1.out hne
    rw [P2.out, HR.out.len] at hr ⊢
    have HB2 := Lib.hid (HB1.out.trans (hB2.mono HB1.out.size))
    have hsm := same_any A2 n0 n0 x0 A0 n0 c0 x0 w2 hr (HR.out.below HB2.out)
    rw [decide_eq_true rfl] at hsm
    have HSM := Lib.hid hsm
    clear hsm hr hz2 hg hB2
    go_wp2_with fail
    refine HSM.out.mono ?_; rintro e w3 ⟨rfl, hD⟩
    have HB3 := Lib.hid (below_drawn HB2.out hD)
    clear hD
    go_wp2_with fail
    refine (lives_true w3).mono ?_; rintro e w4 ⟨rfl, hB4⟩
    have HB4 := Lib.hid (HB3.out.trans (hB4.mono HB3.out.size))
    clear hB4
    go_wp2_with fail
    go_ret
    exact ⟨rfl, HB4.out⟩
end Go.Proofs.Ytpfgacaplmgmoaa
