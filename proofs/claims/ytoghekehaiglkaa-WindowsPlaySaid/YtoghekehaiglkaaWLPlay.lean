/- WindowsPlay: whatever numbers come, or are asked for, each is let be, or refused, as documented. For every list of numbers, 300 at most. -/
import Derived.Test.YtoghekehaiglkaaWPure
import Derived.Test.YtoghekehaiglkaaWRef
import Derived.Deep.RegionHeld3
import Derived.Deep.DrawnRows
namespace Go.Proofs.Ytoghekehaiglkaa
open Go.RowKit
set_option linter.unusedSimpArgs false
set_option linter.unusedVariables false
attribute [local go_sem ↓] Go.wp_at_zero Go.wp_at_succ

theorem rfits_fits {c : List Int} {top : Int} {l : List Int} (h : Kept c top l) (n : Int) (hn : 0 ≤ n) : rfits l top n = fits c top n := by
  rw [kept_fits h n hn]; rfl

def PlayInv (w0 : World) (bA bB : Nat) (k : Nat) (wr : World) : Prop :=
  ∃ c top l v, Win wr bA 1 c top l.length ∧ RWin wr w0.heap.size bB v l top ∧ Kept c top l ∧ l.length ≤ k ∧ top ≤ 18446744073709551615 ∧ v.ownBlock ≠ some bA ∧ Below w0.heap.size w0 wr

set_option maxRecDepth 100000 in
set_option maxHeartbeats 2000000 in
theorem windowsPlay_walk (A0 : Option Addr) (n0 c0 : Nat) (x0 : List Int) (w : World) (r0 : Rd w .u64 A0 n0 x0) (l0 : n0 ≤ c0) :
    Calls Try.prog 4 #[.slice A0 n0 c0] w fun e w' => e = .returned (.bool true) ∧ Below w.heap.size w w' := by
  have hbig := r0.big
  by_cases hn : 300 < n0
  · go_enter Try.func4, Try.ntmps4
    go_wp2_with fail
    go_ret
    exact ⟨rfl, Below.refl _ _⟩
  go_enter Try.func4, Try.ntmps4
  go_wp2_with fail
  refine (new_made _).mono ?_; rintro e wb ⟨rfl, W1, Bb⟩
  go_wp2_with fail
  refine (rnew_any _).mono ?_; rintro e wc ⟨rfl, R1, Bc⟩
  have hAB : w.heap.size < wb.heap.size := W1.lt
  have hI0 : PlayInv w w.heap.size wb.heap.size 0 wc :=
    ⟨noCame, 0, [], .slice none 0 0, W1.keep (M := fun _ => False) (Keeps.of_below Bc) (fun h => h), ⟨R1.row, own_nil _ _ _ _⟩, kept_none, by simp, by omega, by simp [Value.ownBlock], Bb.trans (Bc.mono (by omega))⟩
  obtain ⟨bA, hbA⟩ : ∃ n, w.heap.size = n := ⟨_, rfl⟩
  have HBA : w.heap.size ≤ bA := by omega
  generalize hbB : wb.heap.size = bB at *
  rw [show PlayInv w w.heap.size bB 0 wc = PlayInv w bA bB 0 wc from by rw [hbA]] at hI0
  rw [hbA]
  clear W1 R1 Bb Bc
  have hBB : bA < bB := by omega
  clear hbB hbA hAB
  go_wp2_with fail
  go_loopw [5] (fun i wr => ∃ k : Nat, k ≤ n0 ∧ i = .int .i64 k ∧ PlayInv w bA bB k wr) (fun i _ => n0 - (intOf i).toNat)
  case atStart => exact ⟨0, Nat.zero_le _, rfl, hI0⟩
  case round =>
    obtain ⟨k, hk, rfl, c, top, l, v, W, R, hK, hlk, t1, hv, hB⟩ := hrel
    by_cases hlt : k < n0
    · obtain ⟨b, off, rfl, hbw, hc⟩ := r0.row (by omega)
      have hcell0 := hc k hlt
      obtain ⟨z0, z1⟩ := wf_bounds_u64 (r0.mem hlt)
      generalize hx : x0[k]?.getD 0 = x at *
      clear hx hc
      have hcell : wr.cell? ⟨b, off + k, none⟩ = some (.int .u64 x) := (hB.cell (p := ⟨b, off + k, none⟩) hbw).trans hcell0
      clear hcell0
      have hr := rfits_fits hK x z0
      have hr0 := hr
      have f1 : ∀ W', Win W' bA 1 c top l.length → Calls Try.prog 9 #[.pointer (some ⟨bA, 0, none⟩), .int .u64 x] W' fun e w' => e = .returned (.int .i64 (fits c top x)) ∧ W' = w' := fun W' h => fits_made W' bA c top l.length x h z0 z1 t1
      have f2 : ∀ W', RWin W' w.heap.size bB v l top → Calls Try.prog 15 #[.pointer (some ⟨bB, 0, none⟩), .int .u64 x] W' fun e w' => e = .returned (.int .i64 (fits c top x)) ∧ W' = w' := fun W' h => by
        have := rfits_any W' _ bB v l top x h z0 z1 t1
        rwa [hr] at this
      generalize hfr : fits c top x = r at *
      have HR := Lib.hid hfr
      have HRF := Lib.hid hr0
      have HK := Lib.hid hK
      have F1 := Lib.hid f1
      have F2 := Lib.hid f2
      have HV := Lib.hid hv
      clear f1 f2 hr hv hfr hK hr0
      have i0 : (0 : Int) ≤ (k : Int) := by omega
      have i1 : (k : Int) < (n0 : Int) := by omega
      have WD : Win wr.drew bA 1 c top l.length := W.keep ((Keeps.refl (fun _ => False) wr).drew) (fun h => h)
      have RD : RWin wr.drew w.heap.size bB v l top := R.keep ((Keeps.refl (fun _ => False) wr).drew) (fun h => h) (fun _ _ h => h)
      by_cases h7 : (k : Int) % 7 = 3
      · have h7' : ((k : Int) % 7 != 3) = false := by rw [h7]; rfl
        have H7 := Lib.hid h7
        clear h7
        have WN : ∀ n, Win (wr.drewN n) bA 1 c top l.length := fun n => W.keep ((Keeps.refl (fun _ => False) wr).drewN n) (fun h => h)
        have RN : ∀ n, RWin (wr.drewN n) w.heap.size bB v l top := fun n => R.keep ((Keeps.refl (fun _ => False) wr).drewN n) (fun h => h) (fun _ _ h => h)
        have HWN := Lib.hid WN
        have HRN := Lib.hid RN
        clear WN RN WD RD
        go_wp2_with fail
        go_quiet ((first
            | (go_at_call 9; exact quiet_call (F1.out _ (HWN.out _)))
            | (go_at_call 15; exact quiet_call (F2.out _ (HRN.out _)))
            | (go_at_call 11; exact quiet_call (top_made _ _ _ _ _ (HWN.out _)))
            | (go_at_call 17; exact quiet_call (rtop_any _ _ _ _ _ _ (HRN.out _)))
            | (go_at_call 12; exact quiet_call (taken_made _ _ _ _ _ (HWN.out _)))
            | (go_at_call 18; exact quiet_call (rtaken_any _ _ _ _ _ _ (HRN.out _) (by omega)))))
        go_wp2_with fail
        exact ⟨⟨k + 1, by omega, by go_num, c, top, l, v, HWN.out _, HRN.out _, HK.out, by omega, t1, HV.out, below_drawn hB ⟨_, rfl⟩⟩, by simp [intOf]; omega⟩
      · have h7' : ((k : Int) % 7 != 3) = true := by rw [bne_iff_ne]; exact h7
        have h7t : ((k : Int).tmod 7 != 3) = true := by rw [Int.tmod_eq_emod_of_nonneg (by omega)]; exact h7'
        have H7 := Lib.hid h7
        clear h7
        have hlen : ((if r = 0 then l ++ [x] else l).length : Int) = takeTaken c top l.length x := by
          unfold takeTaken; rw [HR.out]; split <;> simp
        have hlen2 : (if r = 0 then l ++ [x] else l).length ≤ 4294967296 := by split <;> first | omega | (simp; omega)
        have T3 : ∀ W' v', RWin W' w.heap.size bB v' (if r = 0 then l ++ [x] else l) (takeTop c top x) →
            Calls Try.prog 18 #[.pointer (some ⟨bB, 0, none⟩)] W' fun e w' => e = .returned (.int .u64 (takeTaken c top l.length x)) ∧ W' = w' := fun W' v' h =>
          (rtaken_any W' _ bB v' _ _ h hlen2).mono fun e w' ⟨he, hw'⟩ => ⟨by rw [he, hlen], hw'⟩
        have HT3 := Lib.hid T3
        have HLEN := Lib.hid hlen
        have HLEN2 := Lib.hid hlen2
        clear T3 hlen hlen2
        have T1 : ∀ W', Win W' bA 1 c top l.length → RWin W' w.heap.size bB v l top → W'.cell? ⟨b, off + k, none⟩ = some (.int .u64 x) → b < W'.heap.size → Below w.heap.size w W' →
            Calls Try.prog 10 #[.pointer (some ⟨bA, 0, none⟩), .int .u64 x] W' fun e w' => e = .returned (.int .i64 r) ∧ w'.cell? ⟨b, off + k, none⟩ = some (.int .u64 x) ∧
              Hid (Win w' bA 1 (takeCame c top x) (takeTop c top x) (takeTaken c top l.length x) ∧ RWin w' w.heap.size bB v l top ∧ Below w.heap.size w w') := fun W' hw hr hc hb hB' =>
          (take_made W' bA c top l.length x hw z0 z1 t1 (by omega) (by omega)).mono fun e w' ⟨he, h1, h2⟩ =>
            ⟨by rw [he, HR.out], (h2.cell (p := ⟨b, off + k, none⟩) hb (by show ¬ b = bA; omega)).trans hc, h1, hr.keep h2 (by omega) (fun i hi e => HV.out (by rw [hi, e])), below_keeps hB' h2 (Nat.le_refl _) (fun i hi => by subst hi; exact HBA)⟩
        have T2 : ∀ W', Hid (Win W' bA 1 (takeCame c top x) (takeTop c top x) (takeTaken c top l.length x) ∧ RWin W' w.heap.size bB v l top ∧ Below w.heap.size w W') → W'.cell? ⟨b, off + k, none⟩ = some (.int .u64 x) →
            Calls Try.prog 16 #[.pointer (some ⟨bB, 0, none⟩), .int .u64 x] W' fun e w' => e = .returned (.int .i64 r) ∧ w'.cell? ⟨b, off + k, none⟩ = some (.int .u64 x) ∧
              Hid (∃ v', Win w' bA 1 (takeCame c top x) (takeTop c top x) (takeTaken c top l.length x) ∧ RWin w' w.heap.size bB v' (if r = 0 then l ++ [x] else l) (takeTop c top x) ∧ v'.ownBlock ≠ some bA ∧ Below w.heap.size w w') := fun W' ⟨hw, hr, hB'⟩ hc =>
          (rtake_any W' w.heap.size bB v l top x hr (by omega) (by omega) z0 z1 t1).mono fun e w' ⟨he, ⟨v', h1, h2⟩, h3⟩ => by
            have hb : b < W'.heap.size := Nat.lt_of_lt_of_le hbw hB'.size
            have hvb : ∀ i, v.ownBlock = some i → w.heap.size ≤ i := fun i hi => (own_base hr.own i hi).1
            have hlt := hw.lt
            refine ⟨by rw [he, HRF.out], (h3.cell (p := ⟨b, off + k, none⟩) hb (fun e => ?_)).trans hc, v', hw.keep h3 (fun e => ?_), ?_, ?_, below_keeps hB' h3 (Nat.le_refl _) (fun i hi => ?_)⟩
            · rcases e with e | e
              · have : b = bB := e
                omega
              · have := hvb _ e
                have : w.heap.size ≤ b := this
                omega
            · rcases e with e | e
              · omega
              · exact HV.out e
            · rw [HRF.out] at h1
              have : takeTop c top x = if r = 0 then max top x else top := by unfold takeTop; rw [HR.out]
              rw [this]; exact h1
            · rcases h2 with h2 | ⟨g, h2, h4⟩
              · rw [h2]; exact HV.out
              · rw [h2]; intro e; injection e with e; omega
            · rcases hi with hi | hi
              · omega
              · exact hvb _ hi
        have HT1 := Lib.hid T1
        have HT2 := Lib.hid T2
        clear T1 T2
        have BD : Below w.heap.size w wr.drew := below_drawn hB ⟨1, rfl⟩
        have hbd : b < wr.drew.heap.size := Nat.lt_of_lt_of_le hbw BD.size
        have H4 := Lib.hid hbd
        have H5 := Lib.hid BD
        have HWD := Lib.hid WD
        have HRD := Lib.hid RD
        clear hbd BD WD RD
        go_wp2_with fail
        go_region_held3 (fun w' => w'.cell? ⟨b, off + k, none⟩ = some (.int .u64 x)) (first | go_keep | assumption)
          (first
            | (go_at_call 9; refine (F1.out _ HWD.out).mono ?_; rintro e w' ⟨rfl, rfl⟩)
            | (go_at_call 15; refine (F2.out _ HRD.out).mono ?_; rintro e w' ⟨rfl, rfl⟩)
            | (go_at_call 10; refine (HT1.out _ HWD.out HRD.out (by assumption) H4.out H5.out).mono ?_; rintro e w2 ⟨rfl, hc2, H2⟩)
            | (go_at_call 16; refine (HT2.out _ H2 (by assumption)).mono ?_; rintro e w3 ⟨rfl, hc3, v', W3, R3, hv3, B3⟩; have HW3 := Lib.hid W3; have HR3 := Lib.hid R3; clear W3 R3)
            | (go_at_call 11; refine (top_made _ _ _ _ _ HW3.out).mono ?_; rintro e w' ⟨rfl, rfl⟩)
            | (go_at_call 17; refine (rtop_any _ _ _ _ _ _ HR3.out).mono ?_; rintro e w' ⟨rfl, rfl⟩)
            | (go_at_call 12; refine (taken_made _ _ _ _ _ HW3.out).mono ?_; rintro e w' ⟨rfl, rfl⟩)
            | (go_at_call 18; refine (HT3.out _ _ HR3.out).mono ?_; rintro e w' ⟨rfl, rfl⟩))
        go_wp2_with fail
        have HKT := kept_take HK.out x z0
        rw [HR.out] at HKT
        have hlen3 : (if r = 0 then l ++ [x] else l).length ≤ k + 1 := by split <;> first | omega | (simp; omega)
        have ht3 : takeTop c top x ≤ 18446744073709551615 := by unfold takeTop; split <;> omega
        have hw3 := HW3.out
        rw [← HLEN.out] at hw3
        exact ⟨⟨k + 1, by omega, by go_num, _, _, _, v', hw3, HR3.out, HKT, hlen3, ht3, hv3, B3⟩, by simp [intOf]; omega⟩
    · go_wp2_with fail
      go_ret
      exact ⟨rfl, hB⟩
end Go.Proofs.Ytoghekehaiglkaa
