/- Two spots that are in order: sorted they are as they were; two that are alike become one. -/
import Derived.Test.YtgecfcdafbedaaaGreatDoorZRSpotsPlayUpto21
import Derived.Test.YtgecfcdafbedaaaGreatDoorZRSpotsPlayUpto1
import Derived.Handy
import Derived.Deep.RegionHeld3
import Derived.Lib.SliceRun
namespace Go.Proofs.YtgecfcdafbedaaaGreatDoor
open Go.RowKit Go.Shelf
set_option linter.unusedSimpArgs false
set_option linter.unusedVariables false

theorem drew_belowS (w : World) : Below w.heap.size w w.drew := ⟨rfl, rfl, rfl, Nat.le_refl _, fun _ _ => rfl⟩
theorem isnan_any (x : Int) (w : World) : Calls Tryz.prog 150 #[.int .u32 x] w fun e w' => e = .returned (.bool false) ∧ w' = w := by
  go_enter Tryz.func150, Tryz.ntmps150
  go_wp2_with fail
  go_ret
  exact ⟨rfl, rfl⟩
/-- The later one is no less than the one ahead. -/
theorem less_no (x y : Int) (w : World) (h : ¬ y < x) : Calls Tryz.prog 138 #[.int .u32 y, .int .u32 x] w fun e w' => e = .returned (.bool false) ∧ Below w.heap.size w w' := by
  have HE : Hid (decide (y < x) = false) := Lib.hid (decide_eq_false h)
  clear h
  go_enter Tryz.func138, Tryz.ntmps138
  go_wp2_with (first | (go_at_call 150; refine (isnan_any _ _).mono ?_; rintro e w' ⟨rfl, rfl⟩))
  go_ret
  exact ⟨ret_bool HE.out, Below.refl _ _⟩
set_option maxRecDepth 100000 in
theorem len64_two (w : World) : Calls Tryz.prog 142 #[.int .u64 2] w fun e w' => e = .returned (.int .i64 2) ∧ w' = w := by
  go_enter Tryz.func142, Tryz.ntmps142
  go_wp2_with fail
  go_ret
  exact ⟨ret_int (by decide +kernel), rfl⟩
set_option maxRecDepth 100000 in
theorem len_two (w : World) : Calls Tryz.prog 129 #[.int .u64 2] w fun e w' => e = .returned (.int .i64 2) ∧ w' = w := by
  go_enter Tryz.func129, Tryz.ntmps129
  go_wp2_with (first | (go_at_call 142; refine (len64_two _).mono ?_; rintro e w' ⟨rfl, rfl⟩))
  go_ret
  exact ⟨rfl, rfl⟩

set_option maxRecDepth 100000 in
set_option maxHeartbeats 1000000 in
theorem ins_two (g cap : Nat) (x y : Int) (w : World) (hg : g < w.heap.size) (hx : w.cell? ⟨g, 0, none⟩ = some (.int .u32 x)) (hy : w.cell? ⟨g, 1, none⟩ = some (.int .u32 y)) (h : ¬ y < x) :
    Calls Tryz.prog 132 #[.slice (some ⟨g, 0, none⟩) 2 cap, .int .i64 0, .int .i64 2] w fun e w' => e = .returned (.tuple #[]) ∧ Below w.heap.size w w' := by
  have HH := Lib.hid h
  have HG := Lib.hid hg
  have hw0 : IntKind.i64.wrap 0 = 0 := by decide
  have hw1 : IntKind.i64.wrap (1 - 1) = 0 := by decide
  clear h hg
  go_enter Tryz.func132, Tryz.ntmps132
  go_wp2_with fail
  refine wp_loop_rounds 2 ?_
  rw [rounds_succ]
  go_wp2_with fail
  refine wp_loop_rounds 1 ?_
  rw [rounds_succ]
  go_wp2_with fail
  go_region_held3 (fun w' => w'.cell? ⟨g, 0, none⟩ = some (.int .u32 x) ∧ w'.cell? ⟨g, 1, none⟩ = some (.int .u32 y))
    (((try dsimp only); refine ⟨?_, ?_⟩ <;> (first | assumption | (go_keep; done))))
    (first
      | (go_at_call 138
         refine (less_no x y _ (show ¬ y < x by have := HH.out; omega)).mono ?_; rintro e w3 ⟨rfl, hB3⟩
         have k1 := (hB3.cell (p := ⟨g, 0, none⟩) HG.out).trans hx
         have k2 := (hB3.cell (p := ⟨g, 1, none⟩) HG.out).trans hy
         have HB3 := Lib.hid hB3
         clear hB3))
  have HB4 : Hid (Below w.heap.size w w3) := Lib.hid ((drew_belowS w).trans HB3.out)
  go_wp2_with fail
  rw [rounds_succ]
  go_wp2_with fail
  go_end0
  exact ⟨rfl, HB4.out⟩
set_option maxRecDepth 100000 in
set_option maxHeartbeats 1000000 in
theorem pdq_two (g cap : Nat) (x y : Int) (w : World) (hg : g < w.heap.size) (hx : w.cell? ⟨g, 0, none⟩ = some (.int .u32 x)) (hy : w.cell? ⟨g, 1, none⟩ = some (.int .u32 y)) (h : ¬ y < x) :
    Calls Tryz.prog 128 #[.slice (some ⟨g, 0, none⟩) 2 cap, .int .i64 0, .int .i64 2, .int .i64 2] w fun e w' => e = .returned (.tuple #[]) ∧ Below w.heap.size w w' := by
  have HI := Lib.hid (ins_two g cap x y w hg hx hy h)
  clear h hg hx hy
  go_enter Tryz.func128, Tryz.ntmps128
  go_wp2_with fail
  refine wp_loop_rounds 1 ?_
  rw [rounds_succ]
  go_wp2_with fail
  refine HI.out.mono ?_; rintro e w1 ⟨rfl, hB⟩
  go_wp2_with fail
  refine bodyPost_ret (results_none rfl _ _ _) rfl ?_
  exact ⟨rfl, hB⟩
set_option maxRecDepth 100000 in
set_option maxHeartbeats 1000000 in
theorem sort_two (g cap : Nat) (x y : Int) (w : World) (hg : g < w.heap.size) (hx : w.cell? ⟨g, 0, none⟩ = some (.int .u32 x)) (hy : w.cell? ⟨g, 1, none⟩ = some (.int .u32 y)) (h : ¬ y < x) :
    Calls Tryz.prog 121 #[.slice (some ⟨g, 0, none⟩) 2 cap] w fun e w' => e = .returned (.tuple #[]) ∧ Below w.heap.size w w' := by
  have HI := Lib.hid (pdq_two g cap x y w hg hx hy h)
  clear h hg hx hy
  go_enter Tryz.func121, Tryz.ntmps121
  go_wp2_with (first | (go_at_call 129; refine (len_two _).mono ?_; rintro e w' ⟨rfl, rfl⟩))
  refine HI.out.mono ?_; rintro e w1 ⟨rfl, hB⟩
  go_wp2_with fail
  go_end0
  exact ⟨rfl, hB⟩

/-- A new row of two. -/
def TwoAt (n₀ : Nat) (w : World) (g : Nat) (x y : Int) : Prop := n₀ ≤ g ∧ g < w.heap.size ∧ w.cell? ⟨g, 0, none⟩ = some (.int .u32 x) ∧ w.cell? ⟨g, 1, none⟩ = some (.int .u32 y) ∧ w.frozen? ⟨g, 1, none⟩ = false
theorem TwoAt.below {n₀ : Nat} {w w' : World} {g : Nat} {x y : Int} (h : TwoAt n₀ w g x y) (hB : Below w.heap.size w w') : TwoAt n₀ w' g x y :=
  ⟨h.1, Nat.lt_of_lt_of_le h.2.1 hB.size, (hB.cell (p := ⟨g, 0, none⟩) h.2.1).trans h.2.2.1, (hB.cell (p := ⟨g, 1, none⟩) h.2.1).trans h.2.2.2.1, (hB.frozen (p := ⟨g, 1, none⟩) h.2.1).trans h.2.2.2.2⟩
theorem two_of_row {w : World} {n₀ : Nat} {v : Value} {x y : Int} (h : w.ownsRow n₀ 23 1 v 2 [.int .u32 x, .int .u32 y]) : ∃ g cap, v = .slice (some ⟨g, 0, none⟩) 2 cap ∧ 2 ≤ cap ∧ TwoAt n₀ w g x y := by
  rcases h.2 with ⟨_, h0⟩ | ⟨g, cap, cur, rfl, hb, hg, hc, hm, hs, ht⟩
  · exact absurd h0 (by simp)
  · have h0 : cur[0]? = some (.int .u32 x) := by
      have := congrArg (fun l => l[0]?) ht
      simpa using this
    have h1 : cur[1]? = some (.int .u32 y) := by
      have := congrArg (fun l => l[1]?) ht
      simpa using this
    refine ⟨g, cap, rfl, hc, hb, (Array.getElem?_eq_some_iff.1 hg).1, ?_, ?_, ?_⟩
    · simp [World.cell?, hg, h0]
    · simp [World.cell?, hg, h1]
    · simp [World.frozen?, hg]

set_option maxRecDepth 100000 in
set_option maxHeartbeats 1000000 in
theorem sorted_two (Bs n₀ b off cap : Nat) (x y : Int) (w : World) (hBs : Bs < w.heap.size) (hn₀ : n₀ ≤ w.heap.size) (hb : b < n₀)
    (hc0 : w.cell? ⟨Bs, 0, none⟩ = some (.slice (some ⟨b, off, none⟩) 2 cap)) (hx : w.cell? ⟨b, off, none⟩ = some (.int .u32 x)) (hy : w.cell? ⟨b, off + 1, none⟩ = some (.int .u32 y)) (h : ¬ y < x) :
    Calls Tryz.prog 84 #[.func (.func 122) #[] #[.pointer (some ⟨Bs, 0, none⟩)]] w fun e w' => ∃ g cap, e = .returned (.slice (some ⟨g, 0, none⟩) 2 cap) ∧ 2 ≤ cap ∧ TwoAt n₀ w' g x y ∧ Below n₀ w w' := by
  have hcol := col_any Bs n₀ b off cap [x, y] (by simp) w hBs hn₀ hb hc0 (fun j hj => by
    have hj2 : j < 2 := hj
    rcases Nat.lt_or_ge j 1 with h1 | h1
    · obtain rfl : j = 0 := by omega
      simpa using hx
    · obtain rfl : j = 1 := by omega
      simpa using hy)
  have HH := Lib.hid h
  have HBn := Lib.hid hn₀
  clear hc0 hx hy h
  go_enter Tryz.func84, Tryz.ntmps84
  go_wp2_with fail
  refine hcol.mono ?_; rintro e w1 ⟨v, rfl, hrow, hB⟩
  obtain ⟨g, cap1, rfl, h2, hT⟩ := two_of_row (by simpa using hrow)
  obtain ⟨t0, t1, t2, t3, t4⟩ := hT
  have HS := Lib.hid (sort_two g cap1 x y w1 t1 t2 t3 (show ¬ y < x by have := HH.out; omega))
  have HB := Lib.hid hB
  have HT := Lib.hid (show TwoAt n₀ w1 g x y from ⟨t0, t1, t2, t3, t4⟩)
  clear hB t0 t1 t2 t3 t4 hrow
  go_wp2_with fail
  refine HS.out.mono ?_; rintro e w2 ⟨rfl, hB2⟩
  have HB2 := Lib.hid hB2
  clear hB2
  go_wp2_with fail
  go_ret
  exact ⟨g, cap1, rfl, h2, HT.out.below HB2.out, HB.out.trans (HB2.out.mono (Nat.le_trans HBn.out HB.out.size))⟩

set_option maxRecDepth 100000 in
set_option maxHeartbeats 1000000 in
theorem compact_less (g cap : Nat) (x y : Int) (w : World) (hx : w.cell? ⟨g, 0, none⟩ = some (.int .u32 x)) (hy : w.cell? ⟨g, 1, none⟩ = some (.int .u32 y)) (h : x < y) :
    Calls Tryz.prog 86 #[.slice (some ⟨g, 0, none⟩) 2 cap] w fun e w' => e = .returned (.slice (some ⟨g, 0, none⟩) 2 cap) ∧ Below w.heap.size w w' := by
  have hne : ¬ y = x := by omega
  have hw0 : IntKind.i64.wrap 0 = 0 := by decide
  have hw1 : IntKind.i64.wrap (1 - 1) = 0 := by decide
  go_enter Tryz.func86, Tryz.ntmps86
  go_wp2_with fail
  refine wp_loop_rounds 2 ?_
  rw [rounds_succ]
  go_wp2_with fail
  go_region_held3 (fun w' => w'.cell? ⟨g, 0, none⟩ = some (.int .u32 x) ∧ w'.cell? ⟨g, 1, none⟩ = some (.int .u32 y))
    (((try dsimp only); refine ⟨?_, ?_⟩ <;> (first | assumption | (go_keep; done))))
    (fail)
  go_wp2_with fail
  rw [rounds_succ]
  go_wp2_with fail
  go_ret
  exact ⟨rfl, drew_belowS w⟩
set_option maxRecDepth 100000 in
set_option maxHeartbeats 1000000 in
theorem compact_same (n₀ g cap : Nat) (x : Int) (w : World) (hc : 2 ≤ cap) (hT : TwoAt n₀ w g x x) (hn₀ : n₀ ≤ w.heap.size) :
    Calls Tryz.prog 86 #[.slice (some ⟨g, 0, none⟩) 2 cap] w fun e w' => e = .returned (.slice (some ⟨g, 0, none⟩) 1 cap) ∧ Below n₀ w w' := by
  obtain ⟨t0, t1, hx, hy, hf⟩ := hT
  have hw0 : IntKind.i64.wrap 0 = 0 := by decide
  have hw1 : IntKind.i64.wrap (1 - 1) = 0 := by decide
  have T0 := Lib.hid t0
  have T1 := Lib.hid t1
  have hcl : ∀ ty, (Builtin.clear_ #[50] ty #[.slice (some ⟨g, 1, none⟩) 1 (cap - 1)]).run Tryz.prog w.drew = .ok (.tuple #[]) (w.drew.setCells g 1 (List.replicate 1 (.int .u32 0))) :=
    fun ty => Lib.run_clear_slice w.drew 50 23 ty (.int .u32 0) Tryz.underlying50 (fun w => by kernel_rfl) rfl rfl g 1 1 (cap - 1) (by omega) (fun j hj => by
      obtain rfl : j = 0 := by omega
      have : w.drew.cell? ⟨g, 1, none⟩ = some (.int .u32 x) := hy
      simp [this]) (fun j hj => by
      obtain rfl : j = 0 := by omega
      exact hf)
  have HBF : Hid (Below n₀ w (w.drew.setCells g 1 (List.replicate 1 (.int .u32 0)))) := Lib.hid (below_keeps ((drew_belowS w).mono hn₀) (Keeps.setCells (g := g) _ 1 _) hn₀ (fun i hi => by subst hi; exact t0))
  clear t0 t1 hn₀
  go_enter Tryz.func86, Tryz.ntmps86
  go_wp2_with fail
  refine wp_loop_rounds 1 ?_
  rw [rounds_succ]
  go_wp2_with fail
  go_region_held3 (fun w' => w'.cell? ⟨g, 0, none⟩ = some (.int .u32 x) ∧ w'.cell? ⟨g, 1, none⟩ = some (.int .u32 x))
    (((try dsimp only); refine ⟨?_, ?_⟩ <;> (first | assumption | (go_keep; done))))
    (fail)
  go_wp2_with fail
  refine wp_loop_rounds 1 ?_
  rw [rounds_succ]
  go_wp2_with (simp only [hcl])
  go_ret
  exact ⟨rfl, HBF.out⟩
end Go.Proofs.YtgecfcdafbedaaaGreatDoor
