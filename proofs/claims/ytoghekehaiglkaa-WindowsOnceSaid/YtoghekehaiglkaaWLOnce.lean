/- WindowsOnce: each number comes once at most, in whatever order. For every list of numbers, 300 at most. -/
import Derived.Test.YtoghekehaiglkaaWPure
import Derived.Test.YtoghekehaiglkaaWAlive
import Derived.Test.YtoghekehaiglkaaOwn
namespace Go.Proofs.Ytoghekehaiglkaa
open Go.RowKit
set_option linter.unusedSimpArgs false
set_option linter.unusedVariables false

theorem info_u64o : (Try.prog.info? 22).map (fun i => (i.zero, i.size, i.bytes)) = some (some (.int .u64 0), 1, 8) := by kernel_rfl

/-- Is a number among those? -/
def hasIn (l : List Int) (x : Int) : Bool := l.any (· == x)
theorem hasIn_snoc (l : List Int) (x : Int) (j : Nat) (hj : j < l.length) : hasIn (l.take (j + 1)) x = (hasIn (l.take j) x || (l[j]?.getD 0 == x)) := by
  unfold hasIn
  rw [List.take_succ_eq_append_getElem hj, List.any_append]
  simp [hj]
theorem hasIn_iff (l : List Int) (x : Int) : hasIn l x = true ↔ x ∈ l := by
  unfold hasIn; simp

def OnceInv (w0 : World) (bA : Nat) (v : Value) (top : Int) (l : List Int) (wr : World) : Prop :=
  ∃ c, Win wr bA 1 c top l.length ∧ Kept c top l ∧ wr.ownsRow w0.heap.size 22 1 v l.length (l.map (Value.int .u64)) ∧ top ≤ 18446744073709551615 ∧ Below w0.heap.size w0 wr

/-- The four ways in which a number fares. -/
theorem once_ways {c : List Int} {top : Int} {l : List Int} (h : Kept c top l) (n : Int) (hn : 0 ≤ n) :
    (fits c top n = 0 ∧ n ≠ 0 ∧ hasIn l n = false) ∨ (fits c top n = 8 ∧ n ≠ 0 ∧ hasIn l n = true) ∨ (fits c top n = 1 ∧ n = 0) ∨ (fits c top n = 13 ∧ n ≠ 0) := by
  rw [kept_fits h n hn]
  by_cases h0 : n = 0
  · simp [h0]
  · by_cases h1 : n < top ∧ 64 ≤ top - n
    · simp [h0, h1]
    · by_cases h2 : n ∈ l
      · simp [h0, h1, h2, hasIn_iff]
      · have : hasIn l n = false := by
          cases hh : hasIn l n
          · rfl
          · exact absurd ((hasIn_iff l n).1 hh) h2
        simp [h0, h1, h2, this]

set_option maxRecDepth 100000 in
set_option maxHeartbeats 2000000 in
theorem windowsOnce_walk (A0 : Option Addr) (n0 c0 : Nat) (x0 : List Int) (w : World) (r0 : Rd w .u64 A0 n0 x0) (l0 : n0 ≤ c0) :
    Calls Try.prog 5 #[.slice A0 n0 c0] w fun e w' => e = .returned (.bool true) ∧ Below w.heap.size w w' := by
  have hbig := r0.big
  by_cases hn : 300 < n0
  · go_enter Try.func5, Try.ntmps5
    go_wp2_with fail
    refine (alive_true _).mono ?_; rintro e wa ⟨rfl, Ba⟩
    go_wp2_with fail
    refine (alive_true _).mono ?_; rintro e wb ⟨rfl, Bb⟩
    go_wp2_with fail
    go_ret
    exact ⟨rfl, Ba.trans (Bb.mono Ba.size)⟩
  go_enter Try.func5, Try.ntmps5
  go_wp2_with fail
  refine (alive_true _).mono ?_; rintro e wa ⟨rfl, Ba⟩
  go_wp2_with fail
  refine (new_made _).mono ?_; rintro e wb ⟨rfl, W1, Bb⟩
  have hA : w.heap.size ≤ wa.heap.size := Ba.size
  have hI0 : OnceInv w wa.heap.size (.slice none 0 0) 0 [] wb := ⟨noCame, W1, kept_none, own_nil _ _ _ _, by omega, Ba.trans (Bb.mono hA)⟩
  generalize hbA : wa.heap.size = bA at *
  clear W1 Ba Bb hbA
  go_wp2_with fail
  go_loopw [4, 5, 6] (fun v t i wr => ∃ (k : Nat) (top : Int) (l : List Int), k ≤ n0 ∧ l.length ≤ k ∧ i = .int .i64 k ∧ t = .int .u64 top ∧ OnceInv w bA v top l wr) (fun _ _ i _ => n0 - (intOf i).toNat)
  case atStart => exact ⟨0, 0, [], Nat.zero_le _, by simp, rfl, rfl, hI0⟩
  case round =>
    rename_i v t i wr
    obtain ⟨k, top, l, hk, hlk, rfl, rfl, c, W, hK, hO, t1, hB⟩ := hrel
    by_cases hlt : k < n0
    · obtain ⟨b, off, rfl, hbw, hc⟩ := r0.row (by omega)
      have hcell0 := hc k hlt
      obtain ⟨z0, z1⟩ := wf_bounds_u64 (r0.mem hlt)
      generalize hx : x0[k]?.getD 0 = x at *
      clear hx hc
      obtain ⟨_, A, cc, rfl, hcc, hmc, hrow⟩ := own_ints hO
      unfold maxLen at hmc
      have hways := once_ways hK x z0
      have hnext := kept_take hK x z0
      have hafter := fits_after hK x z0
      have htk := take_made wr bA c top l.length x W z0 z1 t1 (by omega) (by omega)
      have htop : takeTop c top x = if fits c top x = 0 then max top x else top := rfl
      have htaken : takeTaken c top l.length x = if fits c top x = 0 then (l.length : Int) + 1 else l.length := rfl
      have hne : ¬ (some bA = (Value.slice A l.length cc).ownBlock) := fun e => own_blk_ne hO W.row (by decide) e.symm
      have hcell : wr.cell? ⟨b, off + k, none⟩ = some (.int .u64 x) := (hB.cell (p := ⟨b, off + k, none⟩) hbw).trans hcell0
      have hbA := W.lt
      generalize takeCame c top x = c' at *
      generalize takeTop c top x = top' at *
      generalize takeTaken c top l.length x = tk' at *
      generalize fits c top x = r at *
      generalize hr2 : fits c' top' x = r2 at *
      have HW := Lib.hid hways
      have HN := Lib.hid hnext
      have HT := Lib.hid htop
      have HK := Lib.hid htaken
      have HR2 := Lib.hid hr2
      have HTK := Lib.hid htk
      have HNE := Lib.hid hne
      have HROW := Lib.hid hrow
      clear hways hnext htop htaken hr2 htk hK hne hrow
      go_wp2_with fail
      refine (HTK.out).mono ?_; rintro e w2 ⟨rfl, W2, K2⟩
      have hB2 : Below w.heap.size w w2 := below_keeps hB K2 (Nat.le_refl _) (fun i hi => by subst hi; exact hA)
      have hO2 := K2.own hO (fun i hi e => HNE.out (by rw [hi, e]))
      have hcell2 : w2.cell? ⟨b, off + k, none⟩ = some (.int .u64 x) := (K2.cell (p := ⟨b, off + k, none⟩) (by have := hB.size; show b < _; omega) (by show ¬ b = bA; omega)).trans hcell
      obtain ⟨_, A_, cc_, hv_, _, _, hrow2⟩ := own_ints hO2
      obtain ⟨rfl, _, rfl⟩ := (Value.slice.injEq ..).mp hv_
      have HROW2 := Lib.hid hrow2
      clear hrow2 hv_ hcell HTK
      clear HROW
      go_wp2_with fail
      go_loopw [8, 9] (fun ag j wx => ∃ jn : Nat, jn ≤ l.length ∧ j = .int .i64 jn ∧ ag = .bool (hasIn (l.take jn) x) ∧ Drawn w2 wx) (fun _ j _ => l.length - (intOf j).toNat)
      case atStart => exact ⟨0, Nat.zero_le _, rfl, rfl, Drawn.refl _⟩
      case round =>
        rename_i ag j wx
        obtain ⟨jn, hjn, rfl, rfl, q, rfl⟩ := hrel
        by_cases hj : jn < l.length
        · obtain ⟨g, rfl, _, _, hg⟩ := HROW2.out (by omega)
          have hcg := hg jn hj
          have hsn := hasIn_snoc l x jn hj
          obtain ⟨y, hy⟩ : ∃ y, l[jn]?.getD 0 = y := ⟨_, rfl⟩
          rw [hy] at hcg hsn
          obtain ⟨bb, hbb⟩ : ∃ bb, hasIn (l.take jn) x = bb := ⟨_, rfl⟩
          rw [hbb] at hsn ⊢
          have HSN := Lib.hid hsn
          clear hsn hy hbb hg
          have i0 : (0 : Int) ≤ (jn : Int) := by omega
          have i1 : (jn : Int) < (l.length : Int) := by omega
          have i2 : (0 : Int) ≤ (k : Int) := by omega
          have i3 : (k : Int) < (n0 : Int) := by omega
          cases bb
          · go_wp2_with fail
            go_quiet (fail)
            go_wp2_with fail
            go_roundw
            case rel => exact ⟨jn + 1, by omega, by go_num, by rw [HSN.out]; simp, _, rfl⟩
            case measure => simp [intOf]; omega
          · go_wp2_with fail
            go_quiet (fail)
            go_wp2_with fail
            go_roundw
            case rel => exact ⟨jn + 1, by omega, by go_num, by rw [HSN.out]; simp, _, rfl⟩
            case measure => simp [intOf]; omega
        · obtain rfl : jn = l.length := by omega
          rw [List.take_length]
          have W3 : Win (w2.drewN q) bA 1 c' top' tk' := W2.keep ((Keeps.refl (fun _ => False) w2).drewN q) (fun h => h)
          have hB3 : Below w.heap.size w (w2.drewN q) := below_drawn hB2 ⟨q, rfl⟩
          have hO3 : (w2.drewN q).ownsRow w.heap.size 22 1 (.slice A l.length cc) l.length (l.map (Value.int .u64)) := hO2
          have hcell3 : (w2.drewN q).cell? ⟨b, off + k, none⟩ = some (.int .u64 x) := hcell2
          have hbw3 : b < (w2.drewN q).heap.size := Nat.lt_of_lt_of_le hbw hB3.size
          generalize w2.drewN q = w3 at *
          clear hcell2 hO2 hB2 K2 W2 HROW2 hO
          have hfit3 : ∀ (W' : World) (m : Int), top' ≤ 18446744073709551615 → Win W' bA 1 c' top' m → Calls Try.prog 9 #[.pointer (some ⟨bA, 0, none⟩), .int .u64 x] W' fun e w' => e = .returned (.int .i64 r2) ∧ W' = w' := fun W' m ht hw => by
            have := fits_made W' bA c' top' m x hw z0 z1 ht
            rwa [HR2.out] at this
          have i2 : (0 : Int) ≤ (k : Int) := by omega
          have i3 : (k : Int) < (n0 : Int) := by omega
          have ht' := HT.out
          have hk' := HK.out
          have HF3 := Lib.hid hfit3
          clear hfit3
          rcases HW.out with ⟨rfl, hx0, hin⟩ | ⟨rfl, hx0, hin⟩ | ⟨rfl, rfl⟩ | ⟨rfl, hx0⟩
          · rw [if_pos rfl] at ht' hk'
            rw [hin]
            have HN' := HN.out
            rw [if_pos rfl] at HN'
            have HN2 := Lib.hid HN'
            have hafter2 : (r2 == 0) = false := by simpa using hafter
            have HX0 := Lib.hid hx0
            have HIN := Lib.hid hin
            clear hx0 hin HN' HW HN HR2 HT HK
            subst hk'
            by_cases hm : top < x
            · obtain rfl : top' = x := by omega
              clear ht' hafter
              go_wp2_with (at_builtin
                           refine append_int (W := w3) w.heap.size rfl _ _ 33 22 .u64 8 rfl Try.underlying33 info_u64o (by omega) (.slice A l.length cc) l.length l top' rfl rfl hO3 hB3.size (by omega) ?_
                           intro v4 w4 hown4 hk4 hat4
                           obtain ⟨A4, cc4, hv4, _⟩ := own_slice hown4
                           rw [hv4] at hown4
                           rw [hv4]
                           have hB4 := below_keeps hB3 hk4 (Nat.le_refl _) (fun i hi => (own_base hO3 i hi).1)
                           have W4 := W3.keep hk4 (fun e => own_blk_ne hO3 W3.row (by decide) e)
                           have hcell4 : w4.cell? ⟨b, off + k, none⟩ = some (.int .u64 top') := (hk4.cell (p := ⟨b, off + k, none⟩) hbw3 (fun e => by have h9 : w.heap.size ≤ b := (own_base hO3 _ e).1; omega)).trans hcell3
                           have HAT4 := Lib.hid hat4
                           clear hat4 hv4)
              refine (top_made _ _ _ _ _ W4).mono ?_; rintro e w5 ⟨rfl, rfl⟩
              go_wp2_with fail
              refine (taken_made _ _ _ _ _ W4).mono ?_; rintro e w5 ⟨rfl, rfl⟩
              go_wp2_with fail
              refine (HF3.out _ _ (by omega) W4).mono ?_; rintro e w5 ⟨rfl, rfl⟩
              go_wp2_with fail
              exact ⟨⟨k + 1, _, l ++ [top'], by omega, by simp; omega, by go_num, rfl, c', by simpa using W4, HN2.out, by simpa using hown4, by omega, hB4⟩, by simp [intOf]; omega⟩
            · obtain rfl : top' = top := by omega
              clear ht' hafter
              go_wp2_with (at_builtin
                           refine append_int (W := w3) w.heap.size rfl _ _ 33 22 .u64 8 rfl Try.underlying33 info_u64o (by omega) (.slice A l.length cc) l.length l x rfl rfl hO3 hB3.size (by omega) ?_
                           intro v4 w4 hown4 hk4 hat4
                           obtain ⟨A4, cc4, hv4, _⟩ := own_slice hown4
                           rw [hv4] at hown4
                           rw [hv4]
                           have hB4 := below_keeps hB3 hk4 (Nat.le_refl _) (fun i hi => (own_base hO3 i hi).1)
                           have W4 := W3.keep hk4 (fun e => own_blk_ne hO3 W3.row (by decide) e)
                           have hcell4 : w4.cell? ⟨b, off + k, none⟩ = some (.int .u64 x) := (hk4.cell (p := ⟨b, off + k, none⟩) hbw3 (fun e => by have h9 : w.heap.size ≤ b := (own_base hO3 _ e).1; omega)).trans hcell3
                           have HAT4 := Lib.hid hat4
                           clear hat4 hv4)
              refine (top_made _ _ _ _ _ W4).mono ?_; rintro e w5 ⟨rfl, rfl⟩
              go_wp2_with fail
              refine (taken_made _ _ _ _ _ W4).mono ?_; rintro e w5 ⟨rfl, rfl⟩
              go_wp2_with fail
              refine (HF3.out _ _ (by omega) W4).mono ?_; rintro e w5 ⟨rfl, rfl⟩
              go_wp2_with fail
              exact ⟨⟨k + 1, _, l ++ [x], by omega, by simp; omega, by go_num, rfl, c', by simpa using W4, HN2.out, by simpa using hown4, by omega, hB4⟩, by simp [intOf]; omega⟩
          · have HN' := HN.out
            rw [if_neg (by omega)] at ht' hk' HN'
            rw [hin]
            have HIN := Lib.hid hin
            have hx1 : (x != 0) = true := by simpa using hx0
            clear hx0 hin
            have HN2 := Lib.hid HN'
            have hafter2 : (r2 == 0) = false := by simpa using hafter
            clear HN' HW HN HR2 HT HK hafter
            subst hk' ht'
            go_wp2_with fail
            refine (top_made _ _ _ _ _ W3).mono ?_; rintro e w5 ⟨rfl, rfl⟩
            go_wp2_with fail
            refine (taken_made _ _ _ _ _ W3).mono ?_; rintro e w5 ⟨rfl, rfl⟩
            go_wp2_with fail
            refine (HF3.out _ _ (by omega) W3).mono ?_; rintro e w5 ⟨rfl, rfl⟩
            go_wp2_with fail
            exact ⟨⟨k + 1, _, l, by omega, by omega, by go_num, rfl, c', W3, HN2.out, hO3, by omega, hB3⟩, by simp [intOf]; omega⟩
          · have HN' := HN.out
            rw [if_neg (by omega)] at ht' hk' HN'
            have HN2 := Lib.hid HN'
            have hafter2 : (r2 == 0) = false := by simpa using hafter
            clear HN' HW HN HR2 HT HK hafter
            subst hk' ht'
            go_wp2_with fail
            refine (top_made _ _ _ _ _ W3).mono ?_; rintro e w5 ⟨rfl, rfl⟩
            go_wp2_with fail
            refine (taken_made _ _ _ _ _ W3).mono ?_; rintro e w5 ⟨rfl, rfl⟩
            go_wp2_with fail
            refine (HF3.out _ _ (by omega) W3).mono ?_; rintro e w5 ⟨rfl, rfl⟩
            go_wp2_with fail
            exact ⟨⟨k + 1, _, l, by omega, by omega, by go_num, rfl, c', W3, HN2.out, hO3, by omega, hB3⟩, by simp [intOf]; omega⟩
          · have HN' := HN.out
            rw [if_neg (by omega)] at ht' hk' HN'
            have hx1 : (x != 0) = true := by simpa using hx0
            clear hx0
            have HN2 := Lib.hid HN'
            have hafter2 : (r2 == 0) = false := by simpa using hafter
            clear HN' HW HN HR2 HT HK hafter
            subst hk' ht'
            go_wp2_with fail
            refine (top_made _ _ _ _ _ W3).mono ?_; rintro e w5 ⟨rfl, rfl⟩
            go_wp2_with fail
            refine (taken_made _ _ _ _ _ W3).mono ?_; rintro e w5 ⟨rfl, rfl⟩
            go_wp2_with fail
            refine (HF3.out _ _ (by omega) W3).mono ?_; rintro e w5 ⟨rfl, rfl⟩
            go_wp2_with fail
            exact ⟨⟨k + 1, _, l, by omega, by omega, by go_num, rfl, c', W3, HN2.out, hO3, by omega, hB3⟩, by simp [intOf]; omega⟩
    · go_wp2_with fail
      go_ret
      exact ⟨rfl, hB⟩
end Go.Proofs.Ytoghekehaiglkaa
