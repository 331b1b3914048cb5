/- Two spots that are in order: sorted they are as they were; two that are alike become one; The walk over slices.Compact at spots: shorter, if any is like the one ahead of it. -/
import Derived.Test.YtgecfcdafbedaaaGreatZRParamsBodies10
import Derived.Test.YtgecfcdafbedaaaGreatZRParamsBodies1
import Derived.Handy
import Derived.Deep.RegionHeld3
import Derived.Lib.SliceRun
namespace Go.Proofs.YtgecfcdafbedaaaGreat
open Go.RowKit Go.Shelf
set_option linter.unusedSimpArgs false
set_option linter.unusedVariables false

theorem drew_belowS (w : World) : Below w.heap.size w w.drew := ⟨rfl, rfl, rfl, Nat.le_refl _, fun _ _ => rfl⟩
theorem isnan_any (x : Int) (w : World) : Calls Tryz.prog 105 #[.int .u32 x] w fun e w' => e = .returned (.bool false) ∧ w' = w := by
  go_enter Tryz.func105, Tryz.ntmps105
  go_wp2_with fail
  go_ret
  exact ⟨rfl, rfl⟩
/-- The later one is no less than the one ahead. -/
theorem less_no (x y : Int) (w : World) (h : ¬ y < x) : Calls Tryz.prog 94 #[.int .u32 y, .int .u32 x] w fun e w' => e = .returned (.bool false) ∧ Below w.heap.size w w' := by
  have HE : Hid (decide (y < x) = false) := Lib.hid (decide_eq_false h)
  clear h
  go_enter Tryz.func94, Tryz.ntmps94
  go_wp2_with (first | (go_at_call 105; refine (isnan_any _ _).mono ?_; rintro e w' ⟨rfl, rfl⟩))
  go_ret
  exact ⟨ret_bool HE.out, Below.refl _ _⟩
set_option maxRecDepth 100000 in
theorem len64_two (w : World) : Calls Tryz.prog 98 #[.int .u64 2] w fun e w' => e = .returned (.int .i64 2) ∧ w' = w := by
  go_enter Tryz.func98, Tryz.ntmps98
  go_wp2_with fail
  go_ret
  exact ⟨ret_int (by decide +kernel), rfl⟩
set_option maxRecDepth 100000 in
theorem len_two (w : World) : Calls Tryz.prog 86 #[.int .u64 2] w fun e w' => e = .returned (.int .i64 2) ∧ w' = w := by
  go_enter Tryz.func86, Tryz.ntmps86
  go_wp2_with (first | (go_at_call 98; refine (len64_two _).mono ?_; rintro e w' ⟨rfl, rfl⟩))
  go_ret
  exact ⟨rfl, rfl⟩

set_option maxRecDepth 100000 in
set_option maxHeartbeats 1000000 in
theorem ins_two (g cap : Nat) (x y : Int) (w : World) (hg : g < w.heap.size) (hx : w.cell? ⟨g, 0, none⟩ = some (.int .u32 x)) (hy : w.cell? ⟨g, 1, none⟩ = some (.int .u32 y)) (h : ¬ y < x) :
    Calls Tryz.prog 88 #[.slice (some ⟨g, 0, none⟩) 2 cap, .int .i64 0, .int .i64 2] w fun e w' => e = .returned (.tuple #[]) ∧ Below w.heap.size w w' := by
  have HH := Lib.hid h
  have HG := Lib.hid hg
  have hw0 : IntKind.i64.wrap 0 = 0 := by decide
  have hw1 : IntKind.i64.wrap (1 - 1) = 0 := by decide
  clear h hg
  go_enter Tryz.func88, Tryz.ntmps88
  go_wp2_with fail
  refine wp_loop_rounds 2 ?_
  rw [rounds_succ]
  go_wp2_with fail
  refine wp_loop_rounds 1 ?_
  rw [rounds_succ]
  go_wp2_with fail
  go_region_held3 (fun w' => w'.cell? ⟨g, 0, none⟩ = some (.int .u32 x) ∧ w'.cell? ⟨g, 1, none⟩ = some (.int .u32 y))
    (((try dsimp only); refine ⟨?_, ?_⟩ <;> (first | assumption | (go_keep; done))))
    (first
      | (go_at_call 94
         refine (less_no x y _ (show ¬ y < x by have := HH.out; omega)).mono ?_; rintro e w3 ⟨rfl, hB3⟩
         have k1 := (hB3.cell (p := ⟨g, 0, none⟩) HG.out).trans hx
         have k2 := (hB3.cell (p := ⟨g, 1, none⟩) HG.out).trans hy
         have HB3 := Lib.hid hB3
         clear hB3))
  have HB4 : Hid (Below w.heap.size w w3) := Lib.hid ((drew_belowS w).trans HB3.out)
  go_wp2_with fail
  rw [rounds_succ]
  go_wp2_with fail
  go_end0
  exact ⟨rfl, HB4.out⟩
set_option maxRecDepth 100000 in
set_option maxHeartbeats 1000000 in
theorem pdq_two (g cap : Nat) (x y : Int) (w : World) (hg : g < w.heap.size) (hx : w.cell? ⟨g, 0, none⟩ = some (.int .u32 x)) (hy : w.cell? ⟨g, 1, none⟩ = some (.int .u32 y)) (h : ¬ y < x) :
    Calls Tryz.prog 85 #[.slice (some ⟨g, 0, none⟩) 2 cap, .int .i64 0, .int .i64 2, .int .i64 2] w fun e w' => e = .returned (.tuple #[]) ∧ Below w.heap.size w w' := by
  have HI := Lib.hid (ins_two g cap x y w hg hx hy h)
  clear h hg hx hy
  go_enter Tryz.func85, Tryz.ntmps85
  go_wp2_with fail
  refine wp_loop_rounds 1 ?_
  rw [rounds_succ]
  go_wp2_with fail
  refine HI.out.mono ?_; rintro e w1 ⟨rfl, hB⟩
  go_wp2_with fail
  refine bodyPost_ret (results_none rfl _ _ _) rfl ?_
  exact ⟨rfl, hB⟩
set_option maxRecDepth 100000 in
set_option maxHeartbeats 1000000 in
theorem sort_two (g cap : Nat) (x y : Int) (w : World) (hg : g < w.heap.size) (hx : w.cell? ⟨g, 0, none⟩ = some (.int .u32 x)) (hy : w.cell? ⟨g, 1, none⟩ = some (.int .u32 y)) (h : ¬ y < x) :
    Calls Tryz.prog 78 #[.slice (some ⟨g, 0, none⟩) 2 cap] w fun e w' => e = .returned (.tuple #[]) ∧ Below w.heap.size w w' := by
  have HI := Lib.hid (pdq_two g cap x y w hg hx hy h)
  clear h hg hx hy
  go_enter Tryz.func78, Tryz.ntmps78
  go_wp2_with (first | (go_at_call 86; refine (len_two _).mono ?_; rintro e w' ⟨rfl, rfl⟩))
  refine HI.out.mono ?_; rintro e w1 ⟨rfl, hB⟩
  go_wp2_with fail
  go_end0
  exact ⟨rfl, hB⟩

/-- A new row of two. -/
def TwoAt (n₀ : Nat) (w : World) (g : Nat) (x y : Int) : Prop := n₀ ≤ g ∧ g < w.heap.size ∧ w.cell? ⟨g, 0, none⟩ = some (.int .u32 x) ∧ w.cell? ⟨g, 1, none⟩ = some (.int .u32 y) ∧ w.frozen? ⟨g, 1, none⟩ = false
theorem TwoAt.below {n₀ : Nat} {w w' : World} {g : Nat} {x y : Int} (h : TwoAt n₀ w g x y) (hB : Below w.heap.size w w') : TwoAt n₀ w' g x y :=
  ⟨h.1, Nat.lt_of_lt_of_le h.2.1 hB.size, (hB.cell (p := ⟨g, 0, none⟩) h.2.1).trans h.2.2.1, (hB.cell (p := ⟨g, 1, none⟩) h.2.1).trans h.2.2.2.1, (hB.frozen (p := ⟨g, 1, none⟩) h.2.1).trans h.2.2.2.2⟩
theorem two_of_row {w : World} {n₀ : Nat} {v : Value} {x y : Int} (h : w.ownsRow n₀ 73 1 v 2 [.int .u32 x, .int .u32 y]) : ∃ g cap, v = .slice (some ⟨g, 0, none⟩) 2 cap ∧ 2 ≤ cap ∧ TwoAt n₀ w g x y := by
  rcases h.2 with ⟨_, h0⟩ | ⟨g, cap, cur, rfl, hb, hg, hc, hm, hs, ht⟩
  · exact absurd h0 (by simp)
  · have h0 : cur[0]? = some (.int .u32 x) := by
      have := congrArg (fun l => l[0]?) ht
      simpa using this
    have h1 : cur[1]? = some (.int .u32 y) := by
      have := congrArg (fun l => l[1]?) ht
      simpa using this
    refine ⟨g, cap, rfl, hc, hb, (Array.getElem?_eq_some_iff.1 hg).1, ?_, ?_, ?_⟩
    · simp [World.cell?, hg, h0]
    · simp [World.cell?, hg, h1]
    · simp [World.frozen?, hg]

set_option maxRecDepth 100000 in
set_option maxHeartbeats 1000000 in
theorem sorted_two (Bs n₀ b off cap : Nat) (x y : Int) (w : World) (hBs : Bs < w.heap.size) (hn₀ : n₀ ≤ w.heap.size) (hb : b < n₀)
    (hc0 : w.cell? ⟨Bs, 0, none⟩ = some (.slice (some ⟨b, off, none⟩) 2 cap)) (hx : w.cell? ⟨b, off, none⟩ = some (.int .u32 x)) (hy : w.cell? ⟨b, off + 1, none⟩ = some (.int .u32 y)) (h : ¬ y < x) :
    Calls Tryz.prog 60 #[.func (.func 79) #[] #[.pointer (some ⟨Bs, 0, none⟩)]] w fun e w' => ∃ g cap, e = .returned (.slice (some ⟨g, 0, none⟩) 2 cap) ∧ 2 ≤ cap ∧ TwoAt n₀ w' g x y ∧ Below n₀ w w' := by
  have hcol := col_any Bs n₀ b off cap [x, y] (by simp) w hBs hn₀ hb hc0 (fun j hj => by
    have hj2 : j < 2 := hj
    rcases Nat.lt_or_ge j 1 with h1 | h1
    · obtain rfl : j = 0 := by omega
      simpa using hx
    · obtain rfl : j = 1 := by omega
      simpa using hy)
  have HH := Lib.hid h
  have HBn := Lib.hid hn₀
  clear hc0 hx hy h
  go_enter Tryz.func60, Tryz.ntmps60
  go_wp2_with fail
  refine hcol.mono ?_; rintro e w1 ⟨v, rfl, hrow, hB⟩
  obtain ⟨g, cap1, rfl, h2, hT⟩ := two_of_row (by simpa using hrow)
  obtain ⟨t0, t1, t2, t3, t4⟩ := hT
  have HS := Lib.hid (sort_two g cap1 x y w1 t1 t2 t3 (show ¬ y < x by have := HH.out; omega))
  have HB := Lib.hid hB
  have HT := Lib.hid (show TwoAt n₀ w1 g x y from ⟨t0, t1, t2, t3, t4⟩)
  clear hB t0 t1 t2 t3 t4 hrow
  go_wp2_with fail
  refine HS.out.mono ?_; rintro e w2 ⟨rfl, hB2⟩
  have HB2 := Lib.hid hB2
  clear hB2
  go_wp2_with fail
  go_ret
  exact ⟨g, cap1, rfl, h2, HT.out.below HB2.out, HB.out.trans (HB2.out.mono (Nat.le_trans HBn.out HB.out.size))⟩

set_option maxRecDepth 100000 in
set_option maxHeartbeats 1000000 in
theorem compact_less (g cap : Nat) (x y : Int) (w : World) (hx : w.cell? ⟨g, 0, none⟩ = some (.int .u32 x)) (hy : w.cell? ⟨g, 1, none⟩ = some (.int .u32 y)) (h : x < y) :
    Calls Tryz.prog 62 #[.slice (some ⟨g, 0, none⟩) 2 cap] w fun e w' => e = .returned (.slice (some ⟨g, 0, none⟩) 2 cap) ∧ Below w.heap.size w w' := by
  have hne : ¬ y = x := by omega
  have hw0 : IntKind.i64.wrap 0 = 0 := by decide
  have hw1 : IntKind.i64.wrap (1 - 1) = 0 := by decide
  go_enter Tryz.func62, Tryz.ntmps62
  go_wp2_with fail
  refine wp_loop_rounds 2 ?_
  rw [rounds_succ]
  go_wp2_with fail
  go_region_held3 (fun w' => w'.cell? ⟨g, 0, none⟩ = some (.int .u32 x) ∧ w'.cell? ⟨g, 1, none⟩ = some (.int .u32 y))
    (((try dsimp only); refine ⟨?_, ?_⟩ <;> (first | assumption | (go_keep; done))))
    (fail)
  go_wp2_with fail
  rw [rounds_succ]
  go_wp2_with fail
  go_ret
  exact ⟨rfl, drew_belowS w⟩
set_option maxRecDepth 100000 in
set_option maxHeartbeats 1000000 in
theorem compact_same (n₀ g cap : Nat) (x : Int) (w : World) (hc : 2 ≤ cap) (hT : TwoAt n₀ w g x x) (hn₀ : n₀ ≤ w.heap.size) :
    Calls Tryz.prog 62 #[.slice (some ⟨g, 0, none⟩) 2 cap] w fun e w' => e = .returned (.slice (some ⟨g, 0, none⟩) 1 cap) ∧ Below n₀ w w' := by
  obtain ⟨t0, t1, hx, hy, hf⟩ := hT
  have hw0 : IntKind.i64.wrap 0 = 0 := by decide
  have hw1 : IntKind.i64.wrap (1 - 1) = 0 := by decide
  have T0 := Lib.hid t0
  have T1 := Lib.hid t1
  have hcl : ∀ ty, (Builtin.clear_ #[24] ty #[.slice (some ⟨g, 1, none⟩) 1 (cap - 1)]).run Tryz.prog w.drew = .ok (.tuple #[]) (w.drew.setCells g 1 (List.replicate 1 (.int .u32 0))) :=
    fun ty => Lib.run_clear_slice w.drew 24 73 ty (.int .u32 0) Tryz.underlying24 (fun w => by kernel_rfl) rfl rfl g 1 1 (cap - 1) (by omega) (fun j hj => by
      obtain rfl : j = 0 := by omega
      have : w.drew.cell? ⟨g, 1, none⟩ = some (.int .u32 x) := hy
      simp [this]) (fun j hj => by
      obtain rfl : j = 0 := by omega
      exact hf)
  have HBF : Hid (Below n₀ w (w.drew.setCells g 1 (List.replicate 1 (.int .u32 0)))) := Lib.hid (below_keeps ((drew_belowS w).mono hn₀) (Keeps.setCells (g := g) _ 1 _) hn₀ (fun i hi => by subst hi; exact t0))
  clear t0 t1 hn₀
  go_enter Tryz.func62, Tryz.ntmps62
  go_wp2_with fail
  refine wp_loop_rounds 1 ?_
  rw [rounds_succ]
  go_wp2_with fail
  go_region_held3 (fun w' => w'.cell? ⟨g, 0, none⟩ = some (.int .u32 x) ∧ w'.cell? ⟨g, 1, none⟩ = some (.int .u32 x))
    (((try dsimp only); refine ⟨?_, ?_⟩ <;> (first | assumption | (go_keep; done))))
    (fail)
  go_wp2_with fail
  refine wp_loop_rounds 1 ?_
  rw [rounds_succ]
  go_wp2_with (simp only [hcl])
  go_ret
  exact ⟨rfl, HBF.out⟩
end Go.Proofs.YtgecfcdafbedaaaGreat

namespace Go.Proofs.YtgecfcdafbedaaaGreat
open Go.RowKit Go.Shelf
set_option linter.unusedSimpArgs false
set_option linter.unusedVariables false

/-- Of each one, whether it is unlike the one ahead. -/
def UnF (f : Nat → Int) (n : Nat) : Prop := ∀ j, 1 ≤ j → j < n → f j ≠ f (j - 1)
def LikeF (f : Nat → Int) (n : Nat) : Prop := ∃ j, 1 ≤ j ∧ j < n ∧ f j = f (j - 1)
set_option maxRecDepth 100000 in
set_option maxHeartbeats 8000000 in
theorem compF_any (g n cap : Nat) (f : Nat → Int) (w : World) (h : RowF w g n f) (hc : n ≤ cap) (hn : n ≤ 1152921504606846976) :
    Calls Tryz.prog 62 #[.slice (some ⟨g, 0, none⟩) n cap] w fun e w' => ∃ m : Nat, e = .returned (.slice (some ⟨g, 0, none⟩) m cap) ∧ ((m = n ∧ UnF f n) ∨ (m < n ∧ LikeF f n)) ∧ Keeps (· = g) w w' := by
  have H0 := Lib.hid h
  have HC := Lib.hid hc
  by_cases h2 : (n : Int) < 2
  · have HN := Lib.hid (show UnF f n from fun j h1 h2 => by omega)
    clear h hc
    go_enter Tryz.func62, Tryz.ntmps62
    go_wp2_with fail
    go_ret
    exact ⟨n, rfl, .inl ⟨rfl, HN.out⟩, Keeps.refl _ _⟩
  · have h2f : ((n : Int) < 2) = False := eq_false h2
    have HN2 := Lib.hid (show 2 ≤ n by omega)
    clear h hc h2
    go_enter Tryz.func62, Tryz.ntmps62
    go_wp2_with fail
    go_loopg [3, 4, 5] (n - 1) (fun gas s3 s4 s5 wr => ∃ k : Nat, n - k = gas ∧ 1 ≤ k ∧ k ≤ n ∧ s3 = .int .i64 (k : Int) ∧ UnF f k ∧ RowF wr g n f ∧ Keeps (· = g) w wr)
    case atStart => exact ⟨1, rfl, Nat.le_refl _, by have := HN2.out; omega, rfl, fun j h1 h2 => by omega, H0.out, Keeps.refl _ _⟩
    case round =>
      obtain ⟨k, rfl, hk1, hkn, rfl, hU, hR, hK⟩ := hrel
      have HR := Lib.hid hR
      have HK := Lib.hid hK
      have HU := Lib.hid hU
      have HK1 := Lib.hid (And.intro hk1 hkn)
      clear hR hK hU
      by_cases hlt : (k : Int) < (n : Int)
      · have hwk : IntKind.i64.wrap ((k : Int) + 1) = ((k + 1 : Nat) : Int) := by rw [IntWalk.i64_in _ (by omega)]; omega
        obtain ⟨q, hq⟩ : ∃ q, k = q + 1 := ⟨k - 1, by omega⟩
        have hwq : IntKind.i64.wrap ((k : Int) - 1) = (q : Int) := by rw [IntWalk.i64_in _ (by omega)]; omega
        have k0 : (0 : Int) ≤ (k : Int) := by omega
        have q0 : (0 : Int) ≤ (q : Int) := by omega
        have q1 : (q : Int) < (n : Int) := by omega
        have c1 := HR.out.cell (j := k) (by omega)
        have c2 := HR.out.cell (j := q) (by omega)
        obtain ⟨x, hx⟩ : ∃ x, f k = x := ⟨_, rfl⟩
        obtain ⟨y, hy⟩ : ∃ y, f q = y := ⟨_, rfl⟩
        rw [hx] at c1
        rw [hy] at c2
        have HX := Lib.hid (show f k = x ∧ f (k - 1) = y from ⟨hx, by rw [hq]; exact hy⟩)
        have HF := Lib.hid (show k + 1 ≤ n ∧ n - (k + 1) < n - k by omega)
        clear hx hy hq hk1 hkn
        by_cases hxy : x = y
        · have hb : (x == y) = true := beq_iff_eq.2 hxy
          have HLK := Lib.hid (show LikeF f n from ⟨k, HK1.out.1, HF.out.1, by rw [HX.out.1, HX.out.2]; exact hxy⟩)
          clear hxy
          have s1 : (k : Int) ≤ (n : Int) := by omega
          have s2 : (n : Int) ≤ (cap : Int) := by have := HC.out; omega
          have s3 : k ≤ n := by omega
          have s4 : n ≤ cap := HC.out
          have s5 : k ≤ cap := by omega
          go_wp2_with fail
          refine wp_region_noPanic ?_
          refine wp_region_held_drew (S := (fun w' => w'.cell? ⟨g, k, none⟩ = some (.int .u32 x) ∧ w'.cell? ⟨g, q, none⟩ = some (.int .u32 y))) (by kernel_rfl) ?_ (fun hHeld => ?_)
          · ((try dsimp only); refine ⟨?_, ?_⟩ <;> (first | assumption | (go_keep; done)))
          refine wpAnyH_take (i := 0) (oi := ⟨some 16, _, _, _, _, _⟩) (v := ?_) rfl (by kernel_rfl) (by kernel_rfl) (by kernel_rfl) (fun _ _ _ h => False.elim h) (Or.inl ⟨by rfl, ?_⟩) (by assumption) ?_
          rotate_left
          · intro w hSw
            (try dsimp only at hSw)
            go_simp
            all_goals with_reducible rfl
          (try simp only [Act.put, List.setIfInBounds_toArray, List.set_cons_zero, List.set_cons_succ])
          refine wpAnyH_take (i := 1) (oi := ⟨some 17, _, _, _, _, _⟩) (v := ?_) rfl (by kernel_rfl) (by kernel_rfl) (by kernel_rfl) (fun _ _ _ h => False.elim h) (Or.inl ⟨by rfl, ?_⟩) (by assumption) ?_
          rotate_left
          · intro w hSw
            (try dsimp only at hSw)
            go_simp
            all_goals with_reducible rfl
          (try simp only [Act.put, List.setIfInBounds_toArray, List.set_cons_zero, List.set_cons_succ])
          refine wpAnyH_take (i := 2) (oi := ⟨some 18, _, _, _, _, _⟩) (v := ?_) rfl (by kernel_rfl) (by kernel_rfl) (by kernel_rfl) (fun _ _ _ h => False.elim h) (Or.inl ⟨by rfl, ?_⟩) (by assumption) ?_
          rotate_left
          · intro w hSw
            (try dsimp only at hSw)
            go_simp
            all_goals with_reducible rfl
          (try simp only [Act.put, List.setIfInBounds_toArray, List.set_cons_zero, List.set_cons_succ])
          refine wpAnyH_take (i := 3) (oi := ⟨some 19, _, _, _, _, _⟩) (v := ?_) rfl (by kernel_rfl) (by kernel_rfl) (by kernel_rfl) (fun _ _ _ h => False.elim h) (Or.inl ⟨by rfl, ?_⟩) (by assumption) ?_
          rotate_left
          · intro w hSw
            (try dsimp only at hSw)
            go_simp
            all_goals with_reducible rfl
          (try simp only [Act.put, List.setIfInBounds_toArray, List.set_cons_zero, List.set_cons_succ])
          refine wpAnyH_take (i := 4) (oi := ⟨some 20, _, _, _, _, _⟩) (v := ?_) rfl (by kernel_rfl) (by kernel_rfl) (by kernel_rfl) (fun _ _ _ h => False.elim h) (Or.inl ⟨by rfl, ?_⟩) (by assumption) ?_
          rotate_left
          · intro w hSw
            (try dsimp only at hSw)
            go_simp
            all_goals with_reducible rfl
          (try simp only [Act.put, List.setIfInBounds_toArray, List.set_cons_zero, List.set_cons_succ])
          refine wpAnyH_take (i := 5) (oi := ⟨some 21, _, _, _, _, _⟩) (v := ?_) rfl (by kernel_rfl) (by kernel_rfl) (by kernel_rfl) (fun _ _ _ h => False.elim h) (Or.inl ⟨by rfl, ?_⟩) (by assumption) ?_
          rotate_left
          · intro w hSw
            (try dsimp only at hSw)
            go_simp
            all_goals with_reducible rfl
          (try simp only [Act.put, List.setIfInBounds_toArray, List.set_cons_zero, List.set_cons_succ])
          refine wpAnyH_take (i := 6) (oi := ⟨some 22, _, _, _, _, _⟩) (v := ?_) rfl (by kernel_rfl) (by kernel_rfl) (by kernel_rfl) (fun _ _ _ h => False.elim h) (Or.inl ⟨by rfl, ?_⟩) (by assumption) ?_
          rotate_left
          · intro w hSw
            (try dsimp only at hSw)
            go_simp
            all_goals with_reducible rfl
          (try simp only [Act.put, List.setIfInBounds_toArray, List.set_cons_zero, List.set_cons_succ])
          refine wpAnyH_take (i := 7) (oi := ⟨some 23, _, _, _, _, _⟩) (v := ?_) rfl (by kernel_rfl) (by kernel_rfl) (by kernel_rfl) (fun _ _ _ h => False.elim h) (Or.inl ⟨by rfl, ?_⟩) (by assumption) ?_
          rotate_left
          · intro w hSw
            (try dsimp only at hSw)
            go_simp
            all_goals with_reducible rfl
          (try simp only [Act.put, List.setIfInBounds_toArray, List.set_cons_zero, List.set_cons_succ])
          refine wpAnyH_take (i := 8) (oi := ⟨some 24, _, _, _, _, _⟩) (v := ?_) rfl (by kernel_rfl) (by kernel_rfl) (by kernel_rfl) (fun _ _ _ h => False.elim h) (Or.inl ⟨by rfl, ?_⟩) (by assumption) ?_
          rotate_left
          · intro w hSw
            (try dsimp only at hSw)
            go_simp
            all_goals with_reducible rfl
          (try simp only [Act.put, List.setIfInBounds_toArray, List.set_cons_zero, List.set_cons_succ])
          refine wpAnyH_take (i := 9) (oi := ⟨some 25, _, _, _, _, _⟩) (v := ?_) rfl (by kernel_rfl) (by kernel_rfl) (by kernel_rfl) (fun _ _ _ h => False.elim h) (Or.inl ⟨by rfl, ?_⟩) (by assumption) ?_
          rotate_left
          · intro w hSw
            (try dsimp only at hSw)
            go_simp
            all_goals with_reducible rfl
          (try simp only [Act.put, List.setIfInBounds_toArray, List.set_cons_zero, List.set_cons_succ])
          refine wpAnyH_done (by kernel_rfl) ?_ _
          refine NoPanic.normal ?_
          go_wp2_with fail
          obtain ⟨l, hl⟩ : ∃ l, n - k = l := ⟨_, rfl⟩
          rw [hl]
          have HL := Lib.hid (show k + l = n ∧ 1 ≤ l by have := HF.out; omega)
          clear hl s1 s2 s3 s4 s5 c1 c2 hwq hwk q0 q1 hb HX
          go_loopg [3, 5] (l - 1) (fun gas s3 s5 w2 => ∃ (kk k2 : Nat) (f2 : Nat → Int), l - k2 = gas ∧ 1 ≤ k2 ∧ k2 ≤ l ∧ k ≤ kk ∧ kk + 1 ≤ k + k2 ∧ s3 = .int .i64 (kk : Int) ∧ s5 = .int .i64 (k2 : Int) ∧ RowF w2 g n f2 ∧ Keeps (· = g) w w2)
          case atStart => exact ⟨k, 1, f, rfl, Nat.le_refl _, HL.out.2, Nat.le_refl _, Nat.le_refl _, rfl, rfl, HR.out, HK.out.drew⟩
          case round =>
            obtain ⟨kk, k2, f2, rfl, h1, h2, h3, h4, rfl, rfl, hR, hK⟩ := hrel
            have HR2 := Lib.hid hR
            have HK2 := Lib.hid hK
            clear hR hK
            by_cases hk2 : (k2 : Int) < (l : Int)
            · have hwk : IntKind.i64.wrap ((k2 : Int) + 1) = ((k2 + 1 : Nat) : Int) := by have := HL.out; rw [IntWalk.i64_in _ (by omega)]; omega
              have hwkk : IntKind.i64.wrap ((kk : Int) + 1) = ((kk + 1 : Nat) : Int) := by have := HL.out; rw [IntWalk.i64_in _ (by omega)]; omega
              obtain ⟨q, hq⟩ : ∃ q, k2 = q + 1 := ⟨k2 - 1, by omega⟩
              have hwq : IntKind.i64.wrap ((k2 : Int) - 1) = (q : Int) := by have := HL.out; rw [IntWalk.i64_in _ (by omega)]; omega
              have q0 : (0 : Int) ≤ (q : Int) := by omega
              have q1 : (q : Int) < (l : Int) := by omega
              have q2 : (0 : Int) ≤ (k2 : Int) := by omega
              have k3 : (0 : Int) ≤ (kk : Int) := by omega
              have k4 : (kk : Int) < (n : Int) := by have := HL.out; omega
              have c1 := HR2.out.cell (j := k + k2) (by have := HL.out; omega)
              have c2 := HR2.out.cell (j := k + q) (by have := HL.out; omega)
              have c3 := HR2.out.cell (j := kk) (by omega)
              have c4 := HR2.out.free kk
              generalize f2 (k + k2) = x at c1
              generalize f2 (k + q) = y at c2
              generalize f2 kk = z at c3
              have HF2 := Lib.hid (show 1 ≤ k2 + 1 ∧ k2 + 1 ≤ l ∧ k ≤ kk ∧ kk + 1 ≤ k + (k2 + 1) ∧ k ≤ kk + 1 ∧ kk + 1 + 1 ≤ k + (k2 + 1) ∧ l - (k2 + 1) < l - k2 ∧ kk < n by omega)
              clear h1 h2 h3 h4 hq
              by_cases hxy : x = y
              · have hb : (x == y) = true := beq_iff_eq.2 hxy
                have hb2 : (x != y) = false := by simp [hxy]
                clear hxy
                go_wp2_with fail
                refine wp_region_noPanic ?_
                refine wp_region_held_drew (S := (fun w' => w'.cell? ⟨g, k + k2, none⟩ = some (.int .u32 x) ∧ w'.cell? ⟨g, k + q, none⟩ = some (.int .u32 y))) (by kernel_rfl) ?_ (fun hHeld => ?_)
                · ((try dsimp only); refine ⟨?_, ?_⟩ <;> (first | assumption | (go_keep; done)))
                refine wpAnyH_take (i := 0) (oi := ⟨some 35, _, _, _, _, _⟩) (v := ?_) rfl (by kernel_rfl) (by kernel_rfl) (by kernel_rfl) (fun _ _ _ h => False.elim h) (Or.inl ⟨by rfl, ?_⟩) (by assumption) ?_
                rotate_left
                · intro w hSw
                  (try dsimp only at hSw)
                  go_simp
                  all_goals with_reducible rfl
                (try simp only [Act.put, List.setIfInBounds_toArray, List.set_cons_zero, List.set_cons_succ])
                refine wpAnyH_take (i := 1) (oi := ⟨some 36, _, _, _, _, _⟩) (v := ?_) rfl (by kernel_rfl) (by kernel_rfl) (by kernel_rfl) (fun _ _ _ h => False.elim h) (Or.inl ⟨by rfl, ?_⟩) (by assumption) ?_
                rotate_left
                · intro w hSw
                  (try dsimp only at hSw)
                  go_simp
                  all_goals with_reducible rfl
                (try simp only [Act.put, List.setIfInBounds_toArray, List.set_cons_zero, List.set_cons_succ])
                refine wpAnyH_take (i := 2) (oi := ⟨some 37, _, _, _, _, _⟩) (v := ?_) rfl (by kernel_rfl) (by kernel_rfl) (by kernel_rfl) (fun _ _ _ h => False.elim h) (Or.inl ⟨by rfl, ?_⟩) (by assumption) ?_
                rotate_left
                · intro w hSw
                  (try dsimp only at hSw)
                  go_simp
                  all_goals with_reducible rfl
                (try simp only [Act.put, List.setIfInBounds_toArray, List.set_cons_zero, List.set_cons_succ])
                refine wpAnyH_take (i := 3) (oi := ⟨some 38, _, _, _, _, _⟩) (v := ?_) rfl (by kernel_rfl) (by kernel_rfl) (by kernel_rfl) (fun _ _ _ h => False.elim h) (Or.inl ⟨by rfl, ?_⟩) (by assumption) ?_
                rotate_left
                · intro w hSw
                  (try dsimp only at hSw)
                  go_simp
                  all_goals with_reducible rfl
                (try simp only [Act.put, List.setIfInBounds_toArray, List.set_cons_zero, List.set_cons_succ])
                refine wpAnyH_take (i := 4) (oi := ⟨some 39, _, _, _, _, _⟩) (v := ?_) rfl (by kernel_rfl) (by kernel_rfl) (by kernel_rfl) (fun _ _ _ h => False.elim h) (Or.inl ⟨by rfl, ?_⟩) (by assumption) ?_
                rotate_left
                · intro w hSw
                  (try dsimp only at hSw)
                  go_simp
                  all_goals with_reducible rfl
                (try simp only [Act.put, List.setIfInBounds_toArray, List.set_cons_zero, List.set_cons_succ])
                refine wpAnyH_take (i := 5) (oi := ⟨some 40, _, _, _, _, _⟩) (v := ?_) rfl (by kernel_rfl) (by kernel_rfl) (by kernel_rfl) (fun _ _ _ h => False.elim h) (Or.inl ⟨by rfl, ?_⟩) (by assumption) ?_
                rotate_left
                · intro w hSw
                  (try dsimp only at hSw)
                  go_simp
                  all_goals with_reducible rfl
                (try simp only [Act.put, List.setIfInBounds_toArray, List.set_cons_zero, List.set_cons_succ])
                refine wpAnyH_take (i := 6) (oi := ⟨some 41, _, _, _, _, _⟩) (v := ?_) rfl (by kernel_rfl) (by kernel_rfl) (by kernel_rfl) (fun _ _ _ h => False.elim h) (Or.inl ⟨by rfl, ?_⟩) (by assumption) ?_
                rotate_left
                · intro w hSw
                  (try dsimp only at hSw)
                  go_simp
                  all_goals with_reducible rfl
                (try simp only [Act.put, List.setIfInBounds_toArray, List.set_cons_zero, List.set_cons_succ])
                refine wpAnyH_take (i := 7) (oi := ⟨some 42, _, _, _, _, _⟩) (v := ?_) rfl (by kernel_rfl) (by kernel_rfl) (by kernel_rfl) (fun _ _ _ h => False.elim h) (Or.inl ⟨by rfl, ?_⟩) (by assumption) ?_
                rotate_left
                · intro w hSw
                  (try dsimp only at hSw)
                  go_simp
                  all_goals with_reducible rfl
                (try simp only [Act.put, List.setIfInBounds_toArray, List.set_cons_zero, List.set_cons_succ])
                refine wpAnyH_take (i := 8) (oi := ⟨some 43, _, _, _, _, _⟩) (v := ?_) rfl (by kernel_rfl) (by kernel_rfl) (by kernel_rfl) (fun _ _ _ h => False.elim h) (Or.inl ⟨by rfl, ?_⟩) (by assumption) ?_
                rotate_left
                · intro w hSw
                  (try dsimp only at hSw)
                  go_simp
                  all_goals with_reducible rfl
                (try simp only [Act.put, List.setIfInBounds_toArray, List.set_cons_zero, List.set_cons_succ])
                refine wpAnyH_take (i := 9) (oi := ⟨some 44, _, _, _, _, _⟩) (v := ?_) rfl (by kernel_rfl) (by kernel_rfl) (by kernel_rfl) (fun _ _ _ h => False.elim h) (Or.inl ⟨by rfl, ?_⟩) (by assumption) ?_
                rotate_left
                · intro w hSw
                  (try dsimp only at hSw)
                  go_simp
                  all_goals with_reducible rfl
                (try simp only [Act.put, List.setIfInBounds_toArray, List.set_cons_zero, List.set_cons_succ])
                refine wpAnyH_done (by kernel_rfl) ?_ _
                refine NoPanic.normal ?_
                go_wp2_with fail
                go_roundg (l - (k2 + 1))
                case rel => exact ⟨kk, k2 + 1, f2, rfl, HF2.out.1, HF2.out.2.1, HF2.out.2.2.1, HF2.out.2.2.2.1, rfl, (by go_num), HR2.out, HK2.out.drew⟩
                case measure => exact HF2.out.2.2.2.2.2.2.1
              · have hb : (x == y) = false := beq_eq_false_iff_ne.2 hxy
                have hb2 : (x != y) = true := by simp [hxy]
                clear hxy
                go_wp2_with fail
                refine wp_region_noPanic ?_
                refine wp_region_held_drew (S := (fun w' => w'.cell? ⟨g, k + k2, none⟩ = some (.int .u32 x) ∧ w'.cell? ⟨g, k + q, none⟩ = some (.int .u32 y))) (by kernel_rfl) ?_ (fun hHeld => ?_)
                · ((try dsimp only); refine ⟨?_, ?_⟩ <;> (first | assumption | (go_keep; done)))
                refine wpAnyH_take (i := 0) (oi := ⟨some 35, _, _, _, _, _⟩) (v := ?_) rfl (by kernel_rfl) (by kernel_rfl) (by kernel_rfl) (fun _ _ _ h => False.elim h) (Or.inl ⟨by rfl, ?_⟩) (by assumption) ?_
                rotate_left
                · intro w hSw
                  (try dsimp only at hSw)
                  go_simp
                  all_goals with_reducible rfl
                (try simp only [Act.put, List.setIfInBounds_toArray, List.set_cons_zero, List.set_cons_succ])
                refine wpAnyH_take (i := 1) (oi := ⟨some 36, _, _, _, _, _⟩) (v := ?_) rfl (by kernel_rfl) (by kernel_rfl) (by kernel_rfl) (fun _ _ _ h => False.elim h) (Or.inl ⟨by rfl, ?_⟩) (by assumption) ?_
                rotate_left
                · intro w hSw
                  (try dsimp only at hSw)
                  go_simp
                  all_goals with_reducible rfl
                (try simp only [Act.put, List.setIfInBounds_toArray, List.set_cons_zero, List.set_cons_succ])
                refine wpAnyH_take (i := 2) (oi := ⟨some 37, _, _, _, _, _⟩) (v := ?_) rfl (by kernel_rfl) (by kernel_rfl) (by kernel_rfl) (fun _ _ _ h => False.elim h) (Or.inl ⟨by rfl, ?_⟩) (by assumption) ?_
                rotate_left
                · intro w hSw
                  (try dsimp only at hSw)
                  go_simp
                  all_goals with_reducible rfl
                (try simp only [Act.put, List.setIfInBounds_toArray, List.set_cons_zero, List.set_cons_succ])
                refine wpAnyH_take (i := 3) (oi := ⟨some 38, _, _, _, _, _⟩) (v := ?_) rfl (by kernel_rfl) (by kernel_rfl) (by kernel_rfl) (fun _ _ _ h => False.elim h) (Or.inl ⟨by rfl, ?_⟩) (by assumption) ?_
                rotate_left
                · intro w hSw
                  (try dsimp only at hSw)
                  go_simp
                  all_goals with_reducible rfl
                (try simp only [Act.put, List.setIfInBounds_toArray, List.set_cons_zero, List.set_cons_succ])
                refine wpAnyH_take (i := 4) (oi := ⟨some 39, _, _, _, _, _⟩) (v := ?_) rfl (by kernel_rfl) (by kernel_rfl) (by kernel_rfl) (fun _ _ _ h => False.elim h) (Or.inl ⟨by rfl, ?_⟩) (by assumption) ?_
                rotate_left
                · intro w hSw
                  (try dsimp only at hSw)
                  go_simp
                  all_goals with_reducible rfl
                (try simp only [Act.put, List.setIfInBounds_toArray, List.set_cons_zero, List.set_cons_succ])
                refine wpAnyH_take (i := 5) (oi := ⟨some 40, _, _, _, _, _⟩) (v := ?_) rfl (by kernel_rfl) (by kernel_rfl) (by kernel_rfl) (fun _ _ _ h => False.elim h) (Or.inl ⟨by rfl, ?_⟩) (by assumption) ?_
                rotate_left
                · intro w hSw
                  (try dsimp only at hSw)
                  go_simp
                  all_goals with_reducible rfl
                (try simp only [Act.put, List.setIfInBounds_toArray, List.set_cons_zero, List.set_cons_succ])
                refine wpAnyH_take (i := 6) (oi := ⟨some 41, _, _, _, _, _⟩) (v := ?_) rfl (by kernel_rfl) (by kernel_rfl) (by kernel_rfl) (fun _ _ _ h => False.elim h) (Or.inl ⟨by rfl, ?_⟩) (by assumption) ?_
                rotate_left
                · intro w hSw
                  (try dsimp only at hSw)
                  go_simp
                  all_goals with_reducible rfl
                (try simp only [Act.put, List.setIfInBounds_toArray, List.set_cons_zero, List.set_cons_succ])
                refine wpAnyH_take (i := 7) (oi := ⟨some 42, _, _, _, _, _⟩) (v := ?_) rfl (by kernel_rfl) (by kernel_rfl) (by kernel_rfl) (fun _ _ _ h => False.elim h) (Or.inl ⟨by rfl, ?_⟩) (by assumption) ?_
                rotate_left
                · intro w hSw
                  (try dsimp only at hSw)
                  go_simp
                  all_goals with_reducible rfl
                (try simp only [Act.put, List.setIfInBounds_toArray, List.set_cons_zero, List.set_cons_succ])
                refine wpAnyH_take (i := 8) (oi := ⟨some 43, _, _, _, _, _⟩) (v := ?_) rfl (by kernel_rfl) (by kernel_rfl) (by kernel_rfl) (fun _ _ _ h => False.elim h) (Or.inl ⟨by rfl, ?_⟩) (by assumption) ?_
                rotate_left
                · intro w hSw
                  (try dsimp only at hSw)
                  go_simp
                  all_goals with_reducible rfl
                (try simp only [Act.put, List.setIfInBounds_toArray, List.set_cons_zero, List.set_cons_succ])
                refine wpAnyH_take (i := 9) (oi := ⟨some 44, _, _, _, _, _⟩) (v := ?_) rfl (by kernel_rfl) (by kernel_rfl) (by kernel_rfl) (fun _ _ _ h => False.elim h) (Or.inl ⟨by rfl, ?_⟩) (by assumption) ?_
                rotate_left
                · intro w hSw
                  (try dsimp only at hSw)
                  go_simp
                  all_goals with_reducible rfl
                (try simp only [Act.put, List.setIfInBounds_toArray, List.set_cons_zero, List.set_cons_succ])
                refine wpAnyH_done (by kernel_rfl) ?_ _
                refine NoPanic.normal ?_
                go_wp2_with fail
                go_roundg (l - (k2 + 1))
                case rel => exact ⟨kk + 1, k2 + 1, _, rfl, HF2.out.1, HF2.out.2.1, HF2.out.2.2.2.2.1, HF2.out.2.2.2.2.2.1, (by go_num), (by go_num), (HR2.out.drew).put kk x HF2.out.2.2.2.2.2.2.2, (HK2.out.drew.trans (Keeps.set1 _ ⟨g, kk, none⟩ _))⟩
                case measure => exact HF2.out.2.2.2.2.2.2.1
            · have hk2f : ((k2 : Int) < (l : Int)) = False := eq_false hk2
              have s1 : (kk : Int) ≤ (n : Int) := by have := HL.out; omega
              have s3 : kk ≤ n := by omega
              have s4 : n ≤ cap := HC.out
              have s5 : kk ≤ cap := by omega
              have k3 : (0 : Int) ≤ (kk : Int) := by omega
              have s6 : (kk : Int) ≤ (cap : Int) := by omega
              have HM := Lib.hid (show kk < n by have := HL.out; omega)
              have s7 : ¬ kk = cap := by have := HM.out; omega
              have s8 : ¬ cap = kk := by have := HM.out; omega
              have hcl : ∀ ty, (Builtin.clear_ #[24] ty #[.slice (some ⟨g, kk, none⟩) (n - kk) (cap - kk)]).run Tryz.prog wr = .ok (.tuple #[]) (wr.setCells g kk (List.replicate (n - kk) (.int .u32 0))) :=
                fun ty => Lib.run_clear_slice wr 24 73 ty (.int .u32 0) Tryz.underlying24 (fun w => by kernel_rfl) rfl rfl g kk (n - kk) (cap - kk) (by have := HM.out; omega) (fun j hj => by
                  have := HR2.out.cell (j := kk + j) (by omega)
                  rw [this]; rfl) (fun j hj => HR2.out.free _)
              clear h1 h2 h3 h4 hk2
              go_wp2_with (simp only [hcl])
              go_ret
              exact ⟨kk, rfl, .inr ⟨HM.out, HLK.out⟩, HK2.out.trans (Keeps.setCells (g := g) _ kk _)⟩
        · have hb : (x == y) = false := beq_eq_false_iff_ne.2 hxy
          have HU2 := Lib.hid (show UnF f (k + 1) from fun j h1 h2 => by
            by_cases hj : j = k
            · subst hj; rw [HX.out.1, HX.out.2]; exact hxy
            · exact HU.out j h1 (by omega))
          clear hxy
          go_wp2_with fail
          refine wp_region_noPanic ?_
          refine wp_region_held_drew (S := (fun w' => w'.cell? ⟨g, k, none⟩ = some (.int .u32 x) ∧ w'.cell? ⟨g, q, none⟩ = some (.int .u32 y))) (by kernel_rfl) ?_ (fun hHeld => ?_)
          · ((try dsimp only); refine ⟨?_, ?_⟩ <;> (first | assumption | (go_keep; done)))
          refine wpAnyH_take (i := 0) (oi := ⟨some 16, _, _, _, _, _⟩) (v := ?_) rfl (by kernel_rfl) (by kernel_rfl) (by kernel_rfl) (fun _ _ _ h => False.elim h) (Or.inl ⟨by rfl, ?_⟩) (by assumption) ?_
          rotate_left
          · intro w hSw
            (try dsimp only at hSw)
            go_simp
            all_goals with_reducible rfl
          (try simp only [Act.put, List.setIfInBounds_toArray, List.set_cons_zero, List.set_cons_succ])
          refine wpAnyH_take (i := 1) (oi := ⟨some 17, _, _, _, _, _⟩) (v := ?_) rfl (by kernel_rfl) (by kernel_rfl) (by kernel_rfl) (fun _ _ _ h => False.elim h) (Or.inl ⟨by rfl, ?_⟩) (by assumption) ?_
          rotate_left
          · intro w hSw
            (try dsimp only at hSw)
            go_simp
            all_goals with_reducible rfl
          (try simp only [Act.put, List.setIfInBounds_toArray, List.set_cons_zero, List.set_cons_succ])
          refine wpAnyH_take (i := 2) (oi := ⟨some 18, _, _, _, _, _⟩) (v := ?_) rfl (by kernel_rfl) (by kernel_rfl) (by kernel_rfl) (fun _ _ _ h => False.elim h) (Or.inl ⟨by rfl, ?_⟩) (by assumption) ?_
          rotate_left
          · intro w hSw
            (try dsimp only at hSw)
            go_simp
            all_goals with_reducible rfl
          (try simp only [Act.put, List.setIfInBounds_toArray, List.set_cons_zero, List.set_cons_succ])
          refine wpAnyH_take (i := 3) (oi := ⟨some 19, _, _, _, _, _⟩) (v := ?_) rfl (by kernel_rfl) (by kernel_rfl) (by kernel_rfl) (fun _ _ _ h => False.elim h) (Or.inl ⟨by rfl, ?_⟩) (by assumption) ?_
          rotate_left
          · intro w hSw
            (try dsimp only at hSw)
            go_simp
            all_goals with_reducible rfl
          (try simp only [Act.put, List.setIfInBounds_toArray, List.set_cons_zero, List.set_cons_succ])
          refine wpAnyH_take (i := 4) (oi := ⟨some 20, _, _, _, _, _⟩) (v := ?_) rfl (by kernel_rfl) (by kernel_rfl) (by kernel_rfl) (fun _ _ _ h => False.elim h) (Or.inl ⟨by rfl, ?_⟩) (by assumption) ?_
          rotate_left
          · intro w hSw
            (try dsimp only at hSw)
            go_simp
            all_goals with_reducible rfl
          (try simp only [Act.put, List.setIfInBounds_toArray, List.set_cons_zero, List.set_cons_succ])
          refine wpAnyH_take (i := 5) (oi := ⟨some 21, _, _, _, _, _⟩) (v := ?_) rfl (by kernel_rfl) (by kernel_rfl) (by kernel_rfl) (fun _ _ _ h => False.elim h) (Or.inl ⟨by rfl, ?_⟩) (by assumption) ?_
          rotate_left
          · intro w hSw
            (try dsimp only at hSw)
            go_simp
            all_goals with_reducible rfl
          (try simp only [Act.put, List.setIfInBounds_toArray, List.set_cons_zero, List.set_cons_succ])
          refine wpAnyH_take (i := 6) (oi := ⟨some 22, _, _, _, _, _⟩) (v := ?_) rfl (by kernel_rfl) (by kernel_rfl) (by kernel_rfl) (fun _ _ _ h => False.elim h) (Or.inl ⟨by rfl, ?_⟩) (by assumption) ?_
          rotate_left
          · intro w hSw
            (try dsimp only at hSw)
            go_simp
            all_goals with_reducible rfl
          (try simp only [Act.put, List.setIfInBounds_toArray, List.set_cons_zero, List.set_cons_succ])
          refine wpAnyH_take (i := 7) (oi := ⟨some 23, _, _, _, _, _⟩) (v := ?_) rfl (by kernel_rfl) (by kernel_rfl) (by kernel_rfl) (fun _ _ _ h => False.elim h) (Or.inl ⟨by rfl, ?_⟩) (by assumption) ?_
          rotate_left
          · intro w hSw
            (try dsimp only at hSw)
            go_simp
            all_goals with_reducible rfl
          (try simp only [Act.put, List.setIfInBounds_toArray, List.set_cons_zero, List.set_cons_succ])
          refine wpAnyH_take (i := 8) (oi := ⟨some 24, _, _, _, _, _⟩) (v := ?_) rfl (by kernel_rfl) (by kernel_rfl) (by kernel_rfl) (fun _ _ _ h => False.elim h) (Or.inl ⟨by rfl, ?_⟩) (by assumption) ?_
          rotate_left
          · intro w hSw
            (try dsimp only at hSw)
            go_simp
            all_goals with_reducible rfl
          (try simp only [Act.put, List.setIfInBounds_toArray, List.set_cons_zero, List.set_cons_succ])
          refine wpAnyH_take (i := 9) (oi := ⟨some 25, _, _, _, _, _⟩) (v := ?_) rfl (by kernel_rfl) (by kernel_rfl) (by kernel_rfl) (fun _ _ _ h => False.elim h) (Or.inl ⟨by rfl, ?_⟩) (by assumption) ?_
          rotate_left
          · intro w hSw
            (try dsimp only at hSw)
            go_simp
            all_goals with_reducible rfl
          (try simp only [Act.put, List.setIfInBounds_toArray, List.set_cons_zero, List.set_cons_succ])
          refine wpAnyH_done (by kernel_rfl) ?_ _
          refine NoPanic.normal ?_
          go_wp2_with fail
          go_roundg (n - (k + 1))
          case rel => exact ⟨k + 1, rfl, by omega, HF.out.1, (by go_num), HU2.out, HR.out, HK.out.drew⟩
          case measure => exact HF.out.2
      · have hltf : ((k : Int) < (n : Int)) = False := eq_false hlt
        have HE := Lib.hid (show k = n by omega)
        clear hlt hk1 hkn
        go_wp2_with fail
        go_ret
        exact ⟨n, rfl, .inl ⟨rfl, by rw [← HE.out]; exact HU.out⟩, HK.out⟩
end Go.Proofs.YtgecfcdafbedaaaGreat
