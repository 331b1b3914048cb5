/- The walk over slices.EqualFunc as guides.Origin asks it. -/
import Derived.Test.YtadpgodmkodgdaaZRGuidesOrigin34
namespace Go.Proofs.Ytadpgodmkodgdaa
open Go.RowKit
set_option linter.unusedSimpArgs false
set_option linter.unusedVariables false

set_option maxHeartbeats 1000000 in
theorem orgc_any (u t : Int) (B : Option Addr) (m c : Nat) (w : World) : Calls Try.prog 22 #[.agg #[.int .u16 u, .slice B m c], .int .u16 t] w fun e w' => e = .returned (.bool (u == t)) ∧ Below w.heap.size w w' := by
  have HB := Lib.hid (new_below w (.cells #[.int .u16 u, .slice B m c] 69))
  go_enter Try.func22, Try.ntmps22
  go_wp2_with fail
  go_ret
  exact ⟨rfl, HB.out⟩
/-- Slices of the same length, alike so far. -/
theorem eq_of_pre {ts us : List Int} (hl : ts.length = us.length) (h : ∀ i t u, i < ts.length → ts[i]? = some t → us[i]? = some u → t = u) : ts = us := by
  apply List.ext_getElem hl
  intro i h1 h2
  exact h i _ _ h1 (List.getElem?_eq_getElem h1) (List.getElem?_eq_getElem h2)
set_option maxRecDepth 100000 in
set_option maxHeartbeats 4000000 in
theorem eqf_any (A : Option Addr) (n c U m : Nat) (ts us : List Int) (w : World) (h : TyRow w A n ts) (hu : Blk w U 52 (us.map (Value.int .u16))) (hul : us.length = m) (hum : m < 1000) :
    Calls Try.prog 21 #[.slice A n c, .slice (some ⟨U, 0, none⟩) m m, .func (.func 22) #[] #[]] w fun e w' => e = .returned (.bool (decide (ts = us))) ∧ Below w.heap.size w w' := by
  have hl := h.1
  have hbig := h.2.1
  by_cases hnm : n = m
  · subst hnm
    have f1 : ((n : Int) != (n : Int)) = false := by simp
    have HT := Lib.hid h
    have HU := Lib.hid hu
    have HUL := Lib.hid hul
    have HL := Lib.hid hl
    clear h hu hul hl
    go_enter Try.func21, Try.ntmps21
    go_wp2_with fail
    go_loopw [17] (fun i wr => ∃ j : Nat, j ≤ n ∧ i = .int .i64 (j : Int) ∧ (∀ k t u, k < j → ts[k]? = some t → us[k]? = some u → t = u) ∧ Below w.heap.size w wr) (fun i _ => n - (intOf i).toNat)
    case atStart => exact ⟨0, Nat.zero_le _, rfl, fun k t u hk => absurd hk (by omega), Below.refl _ _⟩
    case round =>
      obtain ⟨j, hj, rfl, hpre, hB⟩ := hrel
      have HPRE := Lib.hid hpre
      have HB := Lib.hid hB
      clear hpre
      by_cases hlt : j < n
      · obtain ⟨b, off, rfl, hb, hc⟩ := (HT.out.below hB).2.2 (by omega)
        obtain ⟨t, B, q, d, h1, h2, h3⟩ := hc j hlt
        obtain ⟨u, hu⟩ : ∃ u, us[j]? = some u := ⟨_, List.getElem?_eq_getElem (by rw [HUL.out]; exact hlt)⟩
        have h4 : (wr.alloc (.cells #[.int .u16 t, .slice B q d] 69)).cell? ⟨U, j, none⟩ = some (.int .u16 u) := (((HU.out.below hB HU.out.lt).alloc _).cell j).trans (by rw [List.getElem?_map, hu]; rfl)
        have H1 := Lib.hid h1
        have H4 := Lib.hid hu
        have HB2 := Lib.hid (hB.alloc hB.size (.cells #[.int .u16 t, .slice B q d] 69))
        have i0 : (0 : Int) ≤ (j : Int) := by omega
        have i1 : (j : Int) < (n : Int) := by omega
        have HLT := Lib.hid hlt
        by_cases htu : t = u
        · subst htu
          clear h1 hc hB hu hlt hj
          go_wp2_with fail
          refine (orgc_any t t B q d _).mono ?_
          rintro e1 w2 ⟨rfl, hb2⟩
          have HB3 := Lib.hid (HB2.out.trans (hb2.mono HB2.out.size))
          clear hb2
          go_wp2_with fail
          go_roundw
          case rel =>
            refine ⟨j + 1, by have := HLT.out; omega, by go_num, fun k t' u' hk h1' h2' => ?_, HB3.out⟩
            rcases Nat.lt_or_ge k j with h | h
            · exact HPRE.out k t' u' h h1' h2'
            · obtain rfl : k = j := by omega
              rw [H1.out] at h1'
              rw [H4.out] at h2'
              injection h1' with h1'; injection h2' with h2'
              rw [← h1', ← h2']
          case measure => simp [intOf]; have := HLT.out; omega
        · have g1 : (t == u) = false := by simpa using htu
          have HN : Hid (decide (ts = us) = false) := Lib.hid (by
            rw [decide_eq_false_iff_not]; intro h; subst h
            rw [h1] at hu; injection hu with hu; exact htu hu)
          clear h1 hc hB hu hlt hj htu
          go_wp2_with fail
          refine (orgc_any t u B q d _).mono ?_
          rintro e1 w2 ⟨rfl, hb2⟩
          rw [g1]
          have HB3 := Lib.hid (HB2.out.trans (hb2.mono HB2.out.size))
          clear hb2
          go_wp2_with fail
          go_ret
          exact ⟨by rw [HN.out]; rfl, HB3.out⟩
      · obtain rfl : j = n := by omega
        have HY : Hid (decide (ts = us) = true) := Lib.hid (by
          rw [decide_eq_true_eq]
          exact eq_of_pre (by rw [HL.out, HUL.out]) (fun i t u hi h1 h2 => HPRE.out i t u (by rw [← HL.out]; exact hi) h1 h2))
        clear hB hlt hj
        go_wp2_with fail
        go_ret
        exact ⟨by rw [HY.out]; rfl, HB.out⟩
  · have f1 : ((n : Int) != (m : Int)) = true := by simp; omega
    have HN : Hid (decide (ts = us) = false) := Lib.hid (by rw [decide_eq_false_iff_not]; intro h; subst h; omega)
    clear h hu hl hul
    go_enter Try.func21, Try.ntmps21
    go_wp2_with fail
    go_ret
    exact ⟨by rw [HN.out]; rfl, Below.refl _ _⟩
end Go.Proofs.Ytadpgodmkodgdaa
