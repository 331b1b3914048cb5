/- The walk over GetLane; The walk over nums.PutLong. -/
import Derived.Test.YtgecfcdafbedaaaGreatZRParamsBodies28
import Derived.Test.YtgecfcdafbedaaaGreatZRParamsBodies13
namespace Go.Proofs.YtgecfcdafbedaaaGreat
open Go.RowKit
set_option linter.unusedSimpArgs false
set_option linter.unusedVariables false

def laneV (bs : List Int) (n : Nat) : Int × Int × Int := if n = 8 then (told (bs.take 4), told ((bs.drop 4).take 4), 0) else (0, 0, 4)
theorem exlane (A : Option Addr) (n c : Nat) (bs : List Int) (w : World) (r : Rd w .u8 A n bs) (l : n ≤ c) (hz : A = none → c = 0) :
    Calls Tryz.prog 41 #[.slice A n c, .int .i64 (8 : Int), .func (.func 42) #[] #[], .slice none 0 0] w fun e w' => e = .returned (.tuple #[.agg #[.int .u32 (laneV bs n).1, .int .u32 (laneV bs n).2.1], .int .i64 (laneV bs n).2.2]) ∧ Below w.heap.size w w' := by
  by_cases h : n = 8
  · subst h
    refine (exarr2_any A 8 c 8 (laneC bs) w (by omega) (by omega) rfl (by simp [laneC, Value.oneCell']) (fun _ W hB => rdlane_any A c bs W (r.below hB) l hz)).mono fun e w' hh => ⟨?_, hh.2⟩
    rcases hh.1 with ⟨_, rfl⟩ | ⟨hc, _⟩
    · rfl
    · exact absurd rfl hc
  · refine (exarr2_any A n c 8 zARR2 w r.big (by omega) rfl (by decide) (fun hn => absurd hn h)).mono fun e w' hh => ⟨?_, hh.2⟩
    rcases hh.1 with ⟨hc, _⟩ | ⟨hc, rfl⟩
    · exact absurd hc h
    · simp [laneV, h, zARR2]
set_option maxRecDepth 100000 in
set_option maxHeartbeats 2000000 in
theorem getlane_any (A : Option Addr) (n c : Nat) (bs : List Int) (w : World) (r : Rd w .u8 A n bs) (l : n ≤ c) (hz : A = none → c = 0) :
    Calls Tryz.prog 5 #[.slice A n c] w fun e w' => e = .returned (.tuple #[.int .u32 (laneV bs n).1, .int .u32 (laneV bs n).2.1, .int .i64 (laneV bs n).2.2]) ∧ Below w.heap.size w w' := by
  have hx := exlane A n c bs w r l hz
  generalize laneV bs n = t at hx ⊢
  obtain ⟨x, y, E⟩ := t
  have HX := Lib.hid hx
  clear hx r
  go_enter Tryz.func5, Tryz.ntmps5
  go_wp2_with fail
  refine HX.out.mono ?_; rintro e w1 ⟨rfl, hB⟩
  obtain ⟨S, hS⟩ : ∃ S, w1.heap.size = S := ⟨_, rfl⟩
  have HS := Lib.hid hS
  have hB2 : Below w.heap.size w (w1.alloc (.cells #[.int .u32 x, .int .u32 y] 74)) := hB.alloc hB.size _
  have hk2 : Blk (w1.alloc (.cells #[.int .u32 x, .int .u32 y] 74)) S 74 [.int .u32 x, .int .u32 y] := by rw [← hS]; exact Blk.new w1 74 [.int .u32 x, .int .u32 y]
  have HB := Lib.hid hB2
  have k0 := hk2.cell 0
  have k1 := hk2.cell 1
  simp only [List.getElem?_cons_zero, List.getElem?_cons_succ] at k0 k1
  clear hB hS hB2 hk2
  go_upto_region 2 with fail
  rw [HS.out]
  generalize w1.alloc (.cells #[.int .u32 x, .int .u32 y] 74) = w2 at k0 k1 HB ⊢
  have HBd := Lib.hid (show Below w.heap.size w w2.drew from ⟨HB.out.os, HB.out.tape, HB.out.output, HB.out.size, HB.out.block⟩)
  refine wp_region_noPanic ?_
  refine wp_region_held_drew (S := (fun w' => w'.cell? ⟨S, 0, none⟩ = some (.int .u32 x) ∧ w'.cell? ⟨S, 1, none⟩ = some (.int .u32 y))) (by kernel_rfl) ?_ (fun hHeld => ?_)
  · ((try dsimp only); refine ⟨?_, ?_⟩ <;> (first | assumption | (go_keep; done)))
  refine wpAnyH_take (i := 0) (oi := ⟨some 11, _, _, _, _, _⟩) (v := ?_) rfl (by kernel_rfl) (by kernel_rfl) (by kernel_rfl) (fun _ _ _ h => False.elim h) (Or.inl ⟨by rfl, ?_⟩) (by assumption) ?_
  rotate_left
  · intro w hSw
    (try dsimp only at hSw)
    go_simp
    all_goals with_reducible rfl
  (try simp only [Act.put, List.setIfInBounds_toArray, List.set_cons_zero, List.set_cons_succ])
  refine wpAnyH_take (i := 1) (oi := ⟨some 12, _, _, _, _, _⟩) (v := ?_) rfl (by kernel_rfl) (by kernel_rfl) (by kernel_rfl) (fun _ _ _ h => False.elim h) (Or.inl ⟨by rfl, ?_⟩) (by assumption) ?_
  rotate_left
  · intro w hSw
    (try dsimp only at hSw)
    go_simp
    all_goals with_reducible rfl
  (try simp only [Act.put, List.setIfInBounds_toArray, List.set_cons_zero, List.set_cons_succ])
  refine wpAnyH_take (i := 2) (oi := ⟨some 13, _, _, _, _, _⟩) (v := ?_) rfl (by kernel_rfl) (by kernel_rfl) (by kernel_rfl) (fun _ _ _ h => False.elim h) (Or.inl ⟨by rfl, ?_⟩) (by assumption) ?_
  rotate_left
  · intro w hSw
    (try dsimp only at hSw)
    go_simp
    all_goals with_reducible rfl
  (try simp only [Act.put, List.setIfInBounds_toArray, List.set_cons_zero, List.set_cons_succ])
  refine wpAnyH_take (i := 3) (oi := ⟨some 14, _, _, _, _, _⟩) (v := ?_) rfl (by kernel_rfl) (by kernel_rfl) (by kernel_rfl) (fun _ _ _ h => False.elim h) (Or.inl ⟨by rfl, ?_⟩) (by assumption) ?_
  rotate_left
  · intro w hSw
    (try dsimp only at hSw)
    go_simp
    all_goals with_reducible rfl
  (try simp only [Act.put, List.setIfInBounds_toArray, List.set_cons_zero, List.set_cons_succ])
  refine wpAnyH_take (i := 4) (oi := ⟨some 15, _, _, _, _, _⟩) (v := ?_) rfl (by kernel_rfl) (by kernel_rfl) (by kernel_rfl) (fun _ _ _ h => False.elim h) (Or.inl ⟨by rfl, ?_⟩) (by assumption) ?_
  rotate_left
  · intro w hSw
    (try dsimp only at hSw)
    go_simp
    all_goals with_reducible rfl
  (try simp only [Act.put, List.setIfInBounds_toArray, List.set_cons_zero, List.set_cons_succ])
  refine wpAnyH_take (i := 5) (oi := ⟨some 2, _, _, _, _, _⟩) (v := ?_) rfl (by kernel_rfl) (by kernel_rfl) (by kernel_rfl) (fun _ _ _ h => False.elim h) (Or.inl ⟨by rfl, ?_⟩) (by assumption) ?_
  rotate_left
  · intro w hSw
    (try dsimp only at hSw)
    go_simp
    all_goals with_reducible rfl
  (try simp only [Act.put, List.setIfInBounds_toArray, List.set_cons_zero, List.set_cons_succ])
  refine wpAnyH_take (i := 6) (oi := ⟨some 3, _, _, _, _, _⟩) (v := ?_) rfl (by kernel_rfl) (by kernel_rfl) (by kernel_rfl) (fun _ _ _ h => False.elim h) (Or.inl ⟨by rfl, ?_⟩) (by assumption) ?_
  rotate_left
  · intro w hSw
    (try dsimp only at hSw)
    go_simp
    all_goals with_reducible rfl
  (try simp only [Act.put, List.setIfInBounds_toArray, List.set_cons_zero, List.set_cons_succ])
  refine wpAnyH_take (i := 7) (oi := ⟨some 4, _, _, _, _, _⟩) (v := ?_) rfl (by kernel_rfl) (by kernel_rfl) (by kernel_rfl) (fun _ _ _ h => False.elim h) (Or.inl ⟨by rfl, ?_⟩) (by assumption) ?_
  rotate_left
  · intro w hSw
    (try dsimp only at hSw)
    go_simp
    all_goals with_reducible rfl
  (try simp only [Act.put, List.setIfInBounds_toArray, List.set_cons_zero, List.set_cons_succ])
  refine wpAnyH_done (by kernel_rfl) ?_ _
  refine NoPanic.normal ?_
  go_wp2_with fail
  go_ret3
  exact ⟨rfl, HBd.out⟩
end Go.Proofs.YtgecfcdafbedaaaGreat

namespace Go.Proofs.YtgecfcdafbedaaaGreat
open Go.RowKit
set_option linter.unusedSimpArgs false
set_option linter.unusedVariables false

/-- A long number's words, the lowest first. -/
def longVal (a b c d : Int) : Value := .agg #[.int .u64 a, .int .u64 b, .int .u64 c, .int .u64 d]
set_option maxHeartbeats 1000000 in
theorem putlong_any (A0 : Option Addr) (n0 c0 : Nat) (bs : List Int) (a b c d : Int) (w : World) (r0 : Rd w .u8 A0 n0 bs) (l0 : n0 ≤ c0)
    (ha : 0 ≤ a ∧ a ≤ 18446744073709551615) (hb : 0 ≤ b ∧ b ≤ 18446744073709551615) (hc : 0 ≤ c ∧ c ≤ 18446744073709551615) (hd : 0 ≤ d ∧ d ≤ 18446744073709551615) :
    Calls Tryz.prog 66 #[.slice A0 n0 c0, longVal a b c d] w (Made w (bs ++ flat [d, c, b, a] 8)) := by
  have hB1 : Below w.heap.size w ((w.alloc (.cells #[.int .u64 a, .int .u64 b, .int .u64 c, .int .u64 d] 31)).alloc (.cells #[.int .u64 d, .int .u64 c, .int .u64 b, .int .u64 a] 25)) := ((Below.refl _ _).alloc (Nat.le_refl _) _).alloc (by simp) _
  have r1 := r0.below hB1
  have hrow : Calls Tryz.prog 80 #[.slice A0 n0 c0, .int .i64 8, .slice (some ⟨w.heap.size + 1, 0, none⟩) 4 4] ((w.alloc (.cells #[.int .u64 a, .int .u64 b, .int .u64 c, .int .u64 d] 31)).alloc (.cells #[.int .u64 d, .int .u64 c, .int .u64 b, .int .u64 a] 25)) (Made w (bs ++ flat [d, c, b, a] 8)) := by
    have hbl := Blk.new (w.alloc (.cells #[.int .u64 a, .int .u64 b, .int .u64 c, .int .u64 d] 31)) 25 [.int .u64 d, .int .u64 c, .int .u64 b, .int .u64 a]
    rw [World.size_alloc] at hbl
    have := row_any A0 n0 c0 bs 8 (w.heap.size + 1) 4 4 [⟨d, hd⟩, ⟨c, hc⟩, ⟨b, hb⟩, ⟨a, ha⟩] _ r1 l0 (by omega) rfl (by omega) (by simp)
      (fun j hj => by
        rw [hbl.cell]
        rcases j with _ | _ | _ | _ | j
        · rfl
        · rfl
        · rfl
        · rfl
        · omega) [d, c, b, a] rfl
    exact this.mono fun e w' hm => Made.before hm hB1
  have HR := Lib.hid hrow
  clear hrow r1 ha hb hc hd
  unfold longVal
  obtain ⟨bytes, hbytes⟩ : ∃ l, bs ++ flat [d, c, b, a] 8 = l := ⟨_, rfl⟩
  rw [hbytes] at HR ⊢
  have HBY := Lib.hid hbytes
  clear hbytes
  go_enter Tryz.func66, Tryz.ntmps66
  go_wp2_with fail
  refine (HR.out).mono ?_
  rintro e w' ⟨g, hg, rfl, hk, hB⟩
  go_wp2_with fail
  go_ret
  exact ⟨g, hg, rfl, hk, hB⟩
end Go.Proofs.YtgecfcdafbedaaaGreat
