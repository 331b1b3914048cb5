/- The law ParamsBack: the walk. -/
import Derived.Test.YtpfgacaplmgmoaaPLive
import Derived.Test.YtpfgacaplmgmoaaKOpenP
import Derived.Test.YtpfgacaplmgmoaaKPrefix
namespace Go.Proofs.Ytpfgacaplmgmoaa
open Go.RowKit Go.ChangeShapes Go.WideShapes
set_option linter.unusedSimpArgs false
set_option linter.unusedVariables false

theorem Ps.take {w : World} {A : Option Addr} {n : Nat} {ps : List Piece} (h : Ps w A n ps) (k : Nat) (hk : k ≤ n) : Ps w A k (ps.take k) :=
  ⟨by rw [List.length_take, h.len]; omega, by have := h.big; omega, fun h0 => by
    obtain ⟨b, off, e, hb, hc⟩ := h.row (by omega)
    refine ⟨b, off, e, hb, fun j hj => ?_⟩
    obtain ⟨t, body, B, m, c, h1, h2, h3, h4, h5, h6, h7⟩ := hc j (by omega)
    exact ⟨t, body, B, m, c, by rw [List.getElem?_take, if_pos hj]; exact h1, h2, h3, h4, h5, h6, h7⟩⟩
theorem slice_toP (W : World) (A : Option Addr) (len c m : Nat) (h : m ≤ c) : (Instr.slice 22 (.slice A len c) none (some (.int .i64 (m : Int))) none).run Try.prog W = .ok (.slice A m c) W := by
  rw [run_slice_h W 22 A len c (by kernel_rfl) .i64 (m : Int) (by omega) (by omega), show (sizeOf (Try.prog.elem 22)).run Try.prog W = .ok 2 W from by kernel_rfl]
  simp only [Result.andThen, sliced]
  have h0 : ∀ ad : Addr, ad.add 0 = ad := fun ad => by cases ad; unfold Addr.add; split <;> simp_all
  cases A with
  | none => simp
  | some ad => simp [h0]
theorem putE_cases (l : List Piece) : putE l = 0 ∨ putE l = 1 ∨ putE l = 3 := by
  unfold putE
  split
  · exact .inr (.inl rfl)
  · split
    · exact .inr (.inr rfl)
    · split
      · exact .inr (.inr rfl)
      · split
        · exact .inr (.inr rfl)
        · exact .inl rfl
theorem rd_take {w : World} {A : Option Addr} {n : Nat} {xs : List Int} (h : Rd w .u8 A n xs) (k : Nat) (hk : k ≤ n) : Rd w .u8 A k (xs.take k) :=
  ⟨by rw [List.length_take, h.len]; omega, by have := h.big; omega, fun x hx => h.wf x (List.mem_of_mem_take hx), fun h0 => by
    obtain ⟨b, off, e, hb, hc⟩ := h.row (by omega)
    exact ⟨b, off, e, hb, fun j hj => by rw [List.getElem?_take, if_pos hj]; exact hc j (by omega)⟩⟩

set_option maxRecDepth 100000 in
set_option maxHeartbeats 4000000 in
theorem pback_at (A : Option Addr) (n c : Nat) (ps : List Piece) (a : Int) (w : World) (hps : Ps w A n ps) (hnc : n ≤ c) (ha : 0 ≤ a ∧ a ≤ 65535) :
    Calls Try.prog 3 #[.slice A n c, .int .u16 a] w fun e w' => e = .returned (.bool true) ∧ Below w.heap.size w w' := by
  have hput := paput_any A n c ps w hps
  have hok := ps_ok hps
  have hl := hps.len
  have hbig := hps.big
  have HPUT := Lib.hid hput
  have HPS := Lib.hid hps
  have HOK := Lib.hid hok
  clear hput hps hok
  rcases putE_cases ps with hE | hE
  · -- the bytes are there
    have hget0 := paGet_put HOK.out hE
    obtain ⟨Lb, hLb⟩ : ∃ Lb, (pieces ps).length = Lb := ⟨_, rfl⟩
    have hpre := fun k => paGet_prefix HOK.out hE k
    have HE := Lib.hid hE
    have HG0 := Lib.hid hget0
    have HPRE := Lib.hid hpre
    have HL := Lib.hid hl
    clear hE hget0 hpre hl
    go_enter Try.func3, Try.ntmps3
    go_wp2_with fail
    refine HPUT.out.mono ?_
    rintro e w1 (⟨hne, _⟩ | ⟨A1, _, rfl, hr1, hz1, hg1, hB1⟩)
    · exact absurd HE.out hne
    rw [hLb] at hr1 hz1 hg1 ⊢
    have hbL := hr1.big
    have hget := paget_any A1 Lb Lb (pieces ps) w1 hr1 (Nat.le_refl _) hz1
    rw [HG0.out] at hget
    have HGET := Lib.hid hget
    have HR1 := Lib.hid hr1
    have HZ1 := Lib.hid hz1
    have HB1 := Lib.hid hB1
    clear hget hr1 hz1 hg1 hB1
    go_wp2_with fail
    refine HGET.out.mono ?_
    rintro e w2 (⟨hne, _⟩ | ⟨A2, _, rfl, hps2, _, hB2⟩)
    · exact absurd rfl hne
    simp only at hps2 ⊢
    have hp2 := hps2.ps
    rw [HL.out] at hp2 ⊢
    have HB2 := Lib.hid (HB1.out.trans (hB2.mono HB1.out.size))
    have HR2 := Lib.hid (HR1.out.below hB2)
    have hsm := sameps_any A2 A n n n c ps w2 hp2 (HPS.out.below HB2.out)
    have HSM := Lib.hid hsm
    clear hsm hp2 hps2 hB2
    obtain ⟨a', rfl⟩ := Int.eq_ofNat_of_zero_le ha.1
    obtain ⟨k, hk⟩ : ∃ k, a' % (Lb + 1) = k := ⟨_, rfl⟩
    have hkL : k ≤ Lb := by have := Nat.mod_lt a' (show 0 < Lb + 1 by omega); omega
    have hmod : (a' : Int).tmod ((Lb : Int) + 1) = (k : Int) := by
      rw [Int.tmod_eq_emod_of_nonneg (by omega), ← hk, show ((Lb : Int) + 1) = ((Lb + 1 : Nat) : Int) by omega]
      exact (Int.natCast_emod a' (Lb + 1)).symm
    have hw1 : IntKind.i64.wrap (a' : Int) = a' := IntWalk.i64_in _ (by omega)
    have hw2 : IntKind.i64.wrap ((Lb : Int) + 1) = (Lb : Int) + 1 := IntWalk.i64_in _ (by omega)
    have hw3 : IntKind.i64.wrap (k : Int) = k := IntWalk.i64_in _ (by omega)
    have hnz : ¬ ((Lb : Int) + 1 = 0) := by omega
    have hsl := fun W => slice_to W A1 Lb Lb k hkL
    have hpk := HPRE.out k (by rw [hLb]; exact hkL)
    have HPK := Lib.hid hpk
    clear hpk hk
    go_wp2_with fail
    refine HSM.out.mono ?_; rintro e w3 ⟨rfl, hB3⟩
    have hget3 := paget_any A1 k Lb ((pieces ps).take k) w3 ((rd_take HR2.out k hkL).below hB3) hkL HZ1.out
    have HGET3 := Lib.hid hget3
    have HB3 := Lib.hid (HB2.out.trans (hB3.mono HB2.out.size))
    clear hget3 hB3
    go_wp2_with fail
    rcases HPK.out with h5 | ⟨m, hm, hgm, hmm⟩
    · refine HGET3.out.mono ?_
      rintro e w4 (⟨hne, rfl, hB4⟩ | ⟨_, h0, _⟩)
      · rw [h5]
        have HB4 := Lib.hid (HB3.out.trans (hB4.mono HB3.out.size))
        clear hB4 hne h5
        go_wp2_with fail
        refine (lives_true w4).mono ?_; rintro e w5 ⟨rfl, hB5⟩
        have HB5 := Lib.hid (HB4.out.trans (hB5.mono HB4.out.size))
        clear hB5
        go_wp2_with fail
        go_ret
        exact ⟨rfl, HB5.out⟩
      · rw [h5] at h0
        cases h0
    · rw [hgm] at HGET3
      refine HGET3.out.mono ?_
      rintro e w4 (⟨hne, _⟩ | ⟨A4, _, rfl, hps4, _, hB4⟩)
      · exact absurd rfl hne
      simp only at hps4 ⊢
      have hp4 := hps4.ps
      have hmn : m ≤ n := by rw [← HL.out]; exact hm
      have hlm : (ps.take m).length = m := by rw [List.length_take, HL.out]; omega
      rw [hlm] at hp4 ⊢
      have HB4 := Lib.hid (HB3.out.trans (hB4.mono HB3.out.size))
      have hsm4 := sameps_any A4 A m m m c (ps.take m) w4 hp4 ((HPS.out.take m hmn).below HB4.out)
      have HSM4 := Lib.hid hsm4
      have hsl4 := fun W => slice_toP W A n c m (by omega)
      have hmm' : (decide ((k : Int) = (Lb : Int)) = decide ((m : Int) = (n : Int))) := by
        rw [decide_eq_decide]
        rw [hLb, HL.out] at hmm
        constructor
        · intro h; have := hmm.1 (by omega); omega
        · intro h; have := hmm.2 (by omega); omega
      have hmi : (m : Int) ≤ (n : Int) := by omega
      have HMM := Lib.hid hmm'
      clear hsm4 hp4 hps4 hB4 hmm hmm' hgm hlm
      go_wp2_with fail
      refine HSM4.out.mono ?_; rintro e w5 ⟨rfl, hB5⟩
      have HB5 := Lib.hid (HB4.out.trans (hB5.mono HB4.out.size))
      clear hB5
      by_cases hkk : (k : Int) = (Lb : Int)
      · have hmm2 : (m : Int) = (n : Int) := by
          have := HMM.out
          rw [decide_eq_true hkk] at this
          exact of_decide_eq_true this.symm
        obtain rfl : m = n := by omega
        obtain rfl : k = Lb := by omega
        go_wp2_with fail
        refine (lives_true w5).mono ?_; rintro e w6 ⟨rfl, hB6⟩
        have HB6 := Lib.hid (HB5.out.trans (hB6.mono HB5.out.size))
        clear hB6
        go_wp2_with fail
        go_ret
        exact ⟨rfl, HB6.out⟩
      · have hmm2 : ¬ (m : Int) = (n : Int) := by
          have := HMM.out
          rw [decide_eq_false hkk] at this
          exact of_decide_eq_false this.symm
        go_wp2_with fail
        refine (lives_true w5).mono ?_; rintro e w6 ⟨rfl, hB6⟩
        have HB6 := Lib.hid (HB5.out.trans (hB6.mono HB5.out.size))
        clear hB6
        go_wp2_with fail
        go_ret
        exact ⟨rfl, HB6.out⟩
  · have HE := Lib.hid hE
    clear hE
    go_enter Try.func3, Try.ntmps3
    go_wp2_with fail
    refine HPUT.out.mono ?_
    rintro e w1 (⟨hne, rfl, hB1⟩ | ⟨A1, h0, _⟩)
    · have HB1 := Lib.hid hB1
      clear hB1 hne
      rcases HE.out with h | h
      · rw [h]
        go_wp2_with fail
        refine (lives_true w1).mono ?_; rintro e w5 ⟨rfl, hB5⟩
        have HB5 := Lib.hid (HB1.out.trans (hB5.mono HB1.out.size))
        clear hB5
        go_wp2_with fail
        go_ret
        exact ⟨rfl, HB5.out⟩
      · rw [h]
        go_wp2_with fail
        refine (lives_true w1).mono ?_; rintro e w5 ⟨rfl, hB5⟩
        have HB5 := Lib.hid (HB1.out.trans (hB5.mono HB1.out.size))
        clear hB5
        go_wp2_with fail
        go_ret
        exact ⟨rfl, HB5.out⟩
    · have := HE.out
      rw [h0] at this
      omega

set_option maxRecDepth 100000 in
theorem paramsBack_walk {H : Type} {enc : TypeId × Value → H} {base : Nat} {d0 : DataW H} {p0 : List MemPlace} (v0 : Value) (a1 : Int) (w : World)
    (o0 : Value.okWide Try.prog w .any base 22 v0) (k0 : DataW.Trod enc Try.prog w 0 (fun _ => true) true 22 v0 d0 p0) (z0 : (d0.weights Try.prog 22).all (· ≤ reachBytes) = true)
    (w1 : (Lit.int .u16 a1).wf = true) :
    Calls Try.prog 3 #[v0, .int .u16 a1] w fun e w' => e = .returned (.bool true) ∧ Below w.heap.size w w' := by
  obtain ⟨f0, hf0⟩ := k0
  obtain ⟨A, n, c, ps, ep, hps, hnc⟩ := open_piecesC hf0 z0
  obtain ⟨av, nv, cv, rfl⟩ : ∃ av nv cv, v0 = .slice av nv cv := okWide_slice Try.underlying22 o0
  simp only [Value.cells] at ep
  have ev : Value.slice av nv cv = .slice A n c := by simpa using ep
  rw [ev]
  exact pback_at A n c ps a1 w hps hnc (wf_bounds_u16 w1)
end Go.Proofs.Ytpfgacaplmgmoaa
