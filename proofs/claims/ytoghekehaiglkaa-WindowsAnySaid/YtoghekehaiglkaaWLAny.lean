/- WindowsAny: numbers within Reach of one another all come once, in whatever order. For every first number up to 2^63 and every order, 300 at most. -/
import Derived.Test.YtoghekehaiglkaaWPure
import Derived.Test.YtoghekehaiglkaaWAlive
namespace Go.Proofs.Ytoghekehaiglkaa
open Go.RowKit
set_option linter.unusedSimpArgs false
set_option linter.unusedVariables false

/-- The window c and the marks f: what stands in the window is just what is marked. -/
structure Marks (first : Int) (c : List Int) (top : Int) (f : List Int) : Prop where
  lc : c.length = 64
  lf : f.length = 64
  t0 : 0 ≤ top
  t1 : top ≤ first + 63
  at_ : ∀ k : Int, 0 ≤ k → k < 64 → (f[k.toNat]?.getD 0 = 0 ∨ f[k.toNat]?.getD 0 = 1) ∧ c[((first + k) % 64).toNat]?.getD 0 = if f[k.toNat]?.getD 0 = 0 then 0 else first + k
def noMarks : List Int := List.replicate 64 0
theorem noMarks_at (i : Nat) : noMarks[i]?.getD 0 = 0 := by unfold noMarks; rw [List.getElem?_replicate]; split <;> rfl
theorem marks_none (first : Int) (h : 0 ≤ first) : Marks first noCame 0 noMarks :=
  ⟨rfl, rfl, by omega, by omega, fun k _ _ => by rw [noCame_at, noMarks_at]; simp⟩
theorem marks_fits {first : Int} {c f : List Int} {top k : Int} (h : Marks first c top f) (hf : 1 ≤ first) (k0 : 0 ≤ k) (k1 : k < 64) :
    fits c top (first + k) = if f[k.toNat]?.getD 0 = 0 then 0 else 8 := by
  obtain ⟨_, ha⟩ := h.at_ k k0 k1
  have := h.t1
  unfold fits
  simp only [if_neg (show ¬ first + k = 0 by omega), if_neg (show ¬ (first + k < top ∧ 64 ≤ top - (first + k)) by omega), ha]
  by_cases e : f[k.toNat]?.getD 0 = 0
  · rw [if_pos e, if_pos e, if_neg (by omega)]
  · rw [if_neg e, if_neg e, if_pos rfl]
theorem marks_take {first : Int} {c f : List Int} {top k : Int} (h : Marks first c top f) (hf : 1 ≤ first) (k0 : 0 ≤ k) (k1 : k < 64) :
    Marks first (takeCame c top (first + k)) (takeTop c top (first + k)) (f.set k.toNat 1) := by
  have hfit := marks_fits h hf k0 k1
  have hk := h.at_ k k0 k1
  have t0 := h.t0
  have t1 := h.t1
  have lf := h.lf
  unfold takeCame takeTop
  by_cases e : f[k.toNat]?.getD 0 = 0
  · rw [if_pos e] at hfit
    simp only [if_pos hfit]
    refine ⟨by simp [h.lc], by simp [h.lf], by omega, by omega, fun m m0 m1 => ?_⟩
    rw [getD_set c _ _ _ (by rw [h.lc]; exact mod64 _), getD_set f _ _ _ (by omega)]
    by_cases em : k.toNat = m.toNat
    · obtain rfl : k = m := by omega
      simp
    · rw [if_neg em, if_neg (by omega)]
      exact h.at_ m m0 m1
  · rw [if_neg e] at hfit
    simp only [if_neg (show ¬ fits c top (first + k) = 0 by omega)]
    refine ⟨h.lc, by simp [h.lf], t0, t1, fun m m0 m1 => ?_⟩
    rw [getD_set _ _ _ _ (by omega)]
    by_cases em : k.toNat = m.toNat
    · obtain rfl : k = m := by omega
      rw [if_pos rfl, hk.2, if_neg e]
      simp
    · rw [if_neg em]
      exact h.at_ m m0 m1

def AnyInv (w0 : World) (bA bM : Nat) (first many : Int) (k : Nat) (wr : World) : Prop :=
  ∃ c top f, Win wr bA 1 c top many ∧ Blk wr bM 43 (f.map (Value.int .i64)) ∧ Marks first c top f ∧ 0 ≤ many ∧ many ≤ k ∧ Below w0.heap.size w0 wr

set_option maxRecDepth 100000 in
set_option maxHeartbeats 1000000 in
theorem windowsAny_walk (a0 : Int) (A1 : Option Addr) (n1 c1 : Nat) (x1 : List Int) (w : World) (w0 : (Lit.int .u64 a0).wf = true) (r1 : Rd w .u8 A1 n1 x1) (l1 : n1 ≤ c1) :
    Calls Try.prog 7 #[.int .u64 a0, .slice A1 n1 c1] w fun e w' => e = .returned (.bool true) ∧ Below w.heap.size w w' := by
  obtain ⟨y0, y1⟩ := wf_bounds_u64 w0
  clear w0
  have hbig := r1.big
  by_cases hn : 300 < n1
  · go_enter Try.func7, Try.ntmps7
    go_wp2_with fail
    refine (alive_true _).mono ?_; rintro e wa ⟨rfl, Ba⟩
    go_wp2_with fail
    refine (alive_true _).mono ?_; rintro e wb ⟨rfl, Bb⟩
    go_wp2_with fail
    go_ret
    exact ⟨rfl, Ba.trans (Bb.mono Ba.size)⟩
  by_cases hz : a0 = 0
  · subst hz
    go_enter Try.func7, Try.ntmps7
    go_wp2_with fail
    refine (alive_true _).mono ?_; rintro e wa ⟨rfl, Ba⟩
    go_wp2_with fail
    refine (alive_true _).mono ?_; rintro e wb ⟨rfl, Bb⟩
    go_wp2_with fail
    go_ret
    exact ⟨rfl, Ba.trans (Bb.mono Ba.size)⟩
  have hz' : (a0 == 0) = false := by simpa using hz
  by_cases hg : 9223372036854775808 < a0
  · go_enter Try.func7, Try.ntmps7
    go_wp2_with fail
    refine (alive_true _).mono ?_; rintro e wa ⟨rfl, Ba⟩
    go_wp2_with fail
    refine (alive_true _).mono ?_; rintro e wb ⟨rfl, Bb⟩
    go_wp2_with fail
    go_ret
    exact ⟨rfl, Ba.trans (Bb.mono Ba.size)⟩
  have f1 : 1 ≤ a0 := by omega
  clear hz
  go_enter Try.func7, Try.ntmps7
  go_wp2_with fail
  refine (alive_true _).mono ?_; rintro e wa ⟨rfl, Ba⟩
  go_wp2_with fail
  refine (new_made _).mono ?_; rintro e wb ⟨rfl, W1, Bb⟩
  go_wp2_with (refine wpList_value (o := ⟨some 6, .alloc 43, _, _, _, _⟩) (v := .pointer (some ⟨wb.heap.size, 0, none⟩)) (w' := wb.alloc (.cells (noMarks.map (Value.int .i64)).toArray 43 (0, 0))) rfl (by kernel_rfl) ?_)
  have hA : w.heap.size ≤ wa.heap.size := Ba.size
  have hAB : wa.heap.size < wb.heap.size := W1.lt
  have hI0 : AnyInv w wa.heap.size wb.heap.size a0 0 0 (wb.alloc (.cells (noMarks.map (Value.int .i64)).toArray 43 (0, 0))) :=
    ⟨noCame, 0, noMarks, W1.keep (M := fun _ => False) ((Keeps.refl _ _).alloc _) (fun h => h), Blk.new _ _ _, marks_none a0 (by omega), by omega, by omega, (Ba.trans (Bb.mono hA)).alloc (by omega) _⟩
  generalize hbA : wa.heap.size = bA at *
  generalize hbB : wb.heap.size = bM at *
  clear W1 Ba Bb hbA hbB
  go_loopw [7, 8] (fun m i wr => ∃ (k : Nat) (many : Int), k ≤ n1 ∧ i = .int .i64 k ∧ m = .int .u64 many ∧ AnyInv w bA bM a0 many k wr) (fun _ i _ => n1 - (intOf i).toNat)
  case atStart => exact ⟨0, 0, Nat.zero_le _, rfl, rfl, hI0⟩
  case round =>
    obtain ⟨k, many, hk, rfl, rfl, c, top, f, W, F, hM, m0, m1, hB⟩ := hrel
    by_cases hlt : k < n1
    · obtain ⟨b, off, rfl, _, hc⟩ := (r1.below hB).row (by omega)
      have hcell := hc k hlt
      obtain ⟨z0, z1⟩ := wf_bounds_u8 (r1.mem hlt)
      generalize hx : x1[k]?.getD 0 = x at *
      clear hx hc
      have k0 : 0 ≤ x % 64 := by omega
      have k1 : x % 64 < 64 := by omega
      have hfit := marks_fits hM f1 k0 k1
      have hnext := marks_take hM f1 k0 k1
      have ht0 := hM.t0
      have ht1 := hM.t1
      have hlf := hM.lf
      obtain ⟨h01, _⟩ := hM.at_ (x % 64) k0 k1
      have HN := Lib.hid hnext
      have fr1 := fun i => F.free i
      by_cases hz : f[(x % 64).toNat]?.getD 0 = 0
      · rw [if_pos hz] at hfit
        have s1 := fun W' h1 h2 => take_step w W' bA c _ top _ many (many + 1) (a0 + x % 64) 0 h1 h2 hA (by omega) (by omega) (by omega) m0 (by omega) hfit rfl rfl (by unfold takeTaken; rw [if_pos hfit])
        have S1 := Lib.hid s1
        clear s1 hfit hnext hM
        go_wp2_with fail
        refine (S1.out _ W hB).mono ?_; rintro e w2 ⟨rfl, W2, B2, K2⟩
        have F2 := F.keep K2 (by omega)
        have fc := F2.int_at (x % 64).toNat (by omega)
        rw [hz] at fc
        have ff := F2.free (x % 64).toNat
        have HZ := Lib.hid hz
        clear hz
        go_wp2_with fail
        have F3 := F2.int_put (x % 64).toNat 1
        exact ⟨⟨k + 1, _, by omega, by go_num, rfl, _, _, _, W2.keep (Keeps.set1 w2 ⟨bM, (x % 64).toNat, none⟩ _) (by show ¬ bA = bM; omega), F3, HN.out, by omega, by omega, B2.setCell (p := ⟨bM, (x % 64).toNat, none⟩) (by show _ ≤ bM; omega) _⟩, by simp [intOf]; omega⟩
      · have ho : f[(x % 64).toNat]?.getD 0 = 1 := by omega
        rw [if_neg hz] at hfit
        have s1 := fun W' h1 h2 => take_step w W' bA c _ top _ many many (a0 + x % 64) 8 h1 h2 hA (by omega) (by omega) (by omega) m0 (by omega) hfit rfl rfl (by unfold takeTaken; rw [if_neg (by omega)])
        have S1 := Lib.hid s1
        clear s1 hfit hnext hM
        go_wp2_with fail
        refine (S1.out _ W hB).mono ?_; rintro e w2 ⟨rfl, W2, B2, K2⟩
        have F2 := F.keep K2 (by omega)
        have fc := F2.int_at (x % 64).toNat (by omega)
        rw [ho] at fc
        have ff := F2.free (x % 64).toNat
        have HZ := Lib.hid hz
        have HO := Lib.hid ho
        clear hz ho
        go_wp2_with fail
        have F3 := F2.int_put (x % 64).toNat 1
        exact ⟨⟨k + 1, _, by omega, by go_num, rfl, _, _, _, W2.keep (Keeps.set1 w2 ⟨bM, (x % 64).toNat, none⟩ _) (by show ¬ bA = bM; omega), F3, HN.out, by omega, by omega, B2.setCell (p := ⟨bM, (x % 64).toNat, none⟩) (by show _ ≤ bM; omega) _⟩, by simp [intOf]; omega⟩
    · go_wp2_with fail
      refine (taken_made _ _ _ _ _ W).mono ?_; rintro e w4 ⟨rfl, rfl⟩
      go_wp2_with fail
      go_ret
      exact ⟨rfl, hB⟩
end Go.Proofs.Ytoghekehaiglkaa
