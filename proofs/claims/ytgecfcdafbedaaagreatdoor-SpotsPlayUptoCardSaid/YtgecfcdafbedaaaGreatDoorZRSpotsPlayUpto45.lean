/- The walk over SameSpots, of any spots; A set of spots: the calls, with answers that are known. -/
import Derived.Test.YtgecfcdafbedaaaGreatDoorZRSpotsPlayUpto25
import Derived.Test.YtgecfcdafbedaaaGreatDoorZRSpotsPlayUpto1
import Derived.Test.YtgecfcdafbedaaaGreatDoorZRSpotsPlayUpto29
namespace Go.Proofs.YtgecfcdafbedaaaGreatDoor
open Go.RowKit Go.Shelf
set_option linter.unusedSimpArgs false
set_option linter.unusedVariables false

set_option maxRecDepth 100000 in
set_option maxHeartbeats 4000000 in
theorem samespots_any (A B : Option Addr) (n m c d : Nat) (xs ys : List Int) (w : World) (r : Rd w .u32 A n xs) (s : Rd w .u32 B m ys) :
    Calls Tryz.prog 18 #[.slice A n c, .slice B m d] w fun e w' => ∃ q : Bool, e = .returned (.bool q) ∧ (q = true ↔ xs = ys) ∧ Below w.heap.size w w' := by
  have hbig := r.big
  have hl1 := r.len
  have hl2 := s.len
  by_cases hnm : n = m
  · subst hnm
    have f1 : ((n : Int) != (n : Int)) = false := by simp
    have HR := Lib.hid r
    have HS := Lib.hid s
    have HL := Lib.hid (show xs.length = n ∧ ys.length = n from ⟨hl1, hl2⟩)
    clear r s hl1 hl2
    go_enter Tryz.func18, Tryz.ntmps18
    go_wp2_with fail
    go_loopg [5] n (fun gas s5 wr => ∃ k : Nat, n - k = gas ∧ k ≤ n ∧ s5 = .int .i64 (k : Int) ∧ (∀ j, j < k → xs[j]?.getD 0 = ys[j]?.getD 0) ∧ Below w.heap.size w wr)
    case atStart => exact ⟨0, rfl, Nat.zero_le _, rfl, fun j hj => by omega, Below.refl _ _⟩
    case round =>
      obtain ⟨k, rfl, hk, rfl, hE, hB⟩ := hrel
      have HE := Lib.hid hE
      have HB := Lib.hid hB
      clear hE hB
      by_cases hlt : (k : Int) < (n : Int)
      · have hkn : k < n := by omega
        obtain ⟨b, off, rfl, hb, hc⟩ := HR.out.row (by omega)
        obtain ⟨b2, off2, rfl, hb2, hc2⟩ := HS.out.row (by omega)
        have c1 := (HB.out.cell (p := ⟨b, off + k, none⟩) hb).trans (hc k hkn)
        have c2 := (HB.out.cell (p := ⟨b2, off2 + k, none⟩) hb2).trans (hc2 k hkn)
        obtain ⟨x, hx⟩ : ∃ x, xs[k]?.getD 0 = x := ⟨_, rfl⟩
        obtain ⟨y, hy⟩ : ∃ y, ys[k]?.getD 0 = y := ⟨_, rfl⟩
        rw [hx] at c1
        rw [hy] at c2
        have HX := Lib.hid hx
        have HY := Lib.hid hy
        have hwk : IntKind.i64.wrap ((k : Int) + 1) = ((k + 1 : Nat) : Int) := by rw [IntWalk.i64_in _ (by omega)]; omega
        have k0 : (0 : Int) ≤ (k : Int) := by omega
        have HF := Lib.hid (show k + 1 ≤ n ∧ n - (k + 1) < n - k by omega)
        have HBd := Lib.hid (show Below w.heap.size w wr.drew from ⟨HB.out.os, HB.out.tape, HB.out.output, HB.out.size, HB.out.block⟩)
        clear hx hy hc hc2 hk
        by_cases hxy : x = y
        · have g1 : (x == y) = true := beq_iff_eq.2 hxy
          have g2 : (x != y) = false := by simp [hxy]
          have HE2 := Lib.hid (show ∀ j, j < k + 1 → xs[j]?.getD 0 = ys[j]?.getD 0 from fun j hj => by
            by_cases h : j = k
            · subst h; rw [HX.out, HY.out]; exact hxy
            · exact HE.out j (by omega))
          clear hxy
          go_wp2_with fail
          refine wp_region_noPanic ?_
          refine wp_region_held_drew (S := (fun w' => w'.cell? ⟨b, off + k, none⟩ = some (.int .u32 x) ∧ w'.cell? ⟨b2, off2 + k, none⟩ = some (.int .u32 y))) (by kernel_rfl) ?_ (fun hHeld => ?_)
          · ((try dsimp only); refine ⟨?_, ?_⟩ <;> (first | assumption | (go_keep; done)))
          refine wpAnyH_take (i := 0) (oi := ⟨some 17, _, _, _, _, _⟩) (v := ?_) rfl (by kernel_rfl) (by kernel_rfl) (by kernel_rfl) (fun _ _ _ h => False.elim h) (Or.inl ⟨by rfl, ?_⟩) (by assumption) ?_
          rotate_left
          · intro w hSw
            (try dsimp only at hSw)
            go_simp
            all_goals with_reducible rfl
          (try simp only [Act.put, List.setIfInBounds_toArray, List.set_cons_zero, List.set_cons_succ])
          refine wpAnyH_take (i := 1) (oi := ⟨some 18, _, _, _, _, _⟩) (v := ?_) rfl (by kernel_rfl) (by kernel_rfl) (by kernel_rfl) (fun _ _ _ h => False.elim h) (Or.inl ⟨by rfl, ?_⟩) (by assumption) ?_
          rotate_left
          · intro w hSw
            (try dsimp only at hSw)
            go_simp
            all_goals with_reducible rfl
          (try simp only [Act.put, List.setIfInBounds_toArray, List.set_cons_zero, List.set_cons_succ])
          refine wpAnyH_take (i := 2) (oi := ⟨some 19, _, _, _, _, _⟩) (v := ?_) rfl (by kernel_rfl) (by kernel_rfl) (by kernel_rfl) (fun _ _ _ h => False.elim h) (Or.inl ⟨by rfl, ?_⟩) (by assumption) ?_
          rotate_left
          · intro w hSw
            (try dsimp only at hSw)
            go_simp
            all_goals with_reducible rfl
          (try simp only [Act.put, List.setIfInBounds_toArray, List.set_cons_zero, List.set_cons_succ])
          refine wpAnyH_take (i := 3) (oi := ⟨some 20, _, _, _, _, _⟩) (v := ?_) rfl (by kernel_rfl) (by kernel_rfl) (by kernel_rfl) (fun _ _ _ h => False.elim h) (Or.inl ⟨by rfl, ?_⟩) (by assumption) ?_
          rotate_left
          · intro w hSw
            (try dsimp only at hSw)
            go_simp
            all_goals with_reducible rfl
          (try simp only [Act.put, List.setIfInBounds_toArray, List.set_cons_zero, List.set_cons_succ])
          refine wpAnyH_take (i := 4) (oi := ⟨some 21, _, _, _, _, _⟩) (v := ?_) rfl (by kernel_rfl) (by kernel_rfl) (by kernel_rfl) (fun _ _ _ h => False.elim h) (Or.inl ⟨by rfl, ?_⟩) (by assumption) ?_
          rotate_left
          · intro w hSw
            (try dsimp only at hSw)
            go_simp
            all_goals with_reducible rfl
          (try simp only [Act.put, List.setIfInBounds_toArray, List.set_cons_zero, List.set_cons_succ])
          refine wpAnyH_take (i := 5) (oi := ⟨some 22, _, _, _, _, _⟩) (v := ?_) rfl (by kernel_rfl) (by kernel_rfl) (by kernel_rfl) (fun _ _ _ h => False.elim h) (Or.inl ⟨by rfl, ?_⟩) (by assumption) ?_
          rotate_left
          · intro w hSw
            (try dsimp only at hSw)
            go_simp
            all_goals with_reducible rfl
          (try simp only [Act.put, List.setIfInBounds_toArray, List.set_cons_zero, List.set_cons_succ])
          refine wpAnyH_take (i := 6) (oi := ⟨some 23, _, _, _, _, _⟩) (v := ?_) rfl (by kernel_rfl) (by kernel_rfl) (by kernel_rfl) (fun _ _ _ h => False.elim h) (Or.inl ⟨by rfl, ?_⟩) (by assumption) ?_
          rotate_left
          · intro w hSw
            (try dsimp only at hSw)
            go_simp
            all_goals with_reducible rfl
          (try simp only [Act.put, List.setIfInBounds_toArray, List.set_cons_zero, List.set_cons_succ])
          refine wpAnyH_take (i := 7) (oi := ⟨some 24, _, _, _, _, _⟩) (v := ?_) rfl (by kernel_rfl) (by kernel_rfl) (by kernel_rfl) (fun _ _ _ h => False.elim h) (Or.inl ⟨by rfl, ?_⟩) (by assumption) ?_
          rotate_left
          · intro w hSw
            (try dsimp only at hSw)
            go_simp
            all_goals with_reducible rfl
          (try simp only [Act.put, List.setIfInBounds_toArray, List.set_cons_zero, List.set_cons_succ])
          refine wpAnyH_take (i := 8) (oi := ⟨some 25, _, _, _, _, _⟩) (v := ?_) rfl (by kernel_rfl) (by kernel_rfl) (by kernel_rfl) (fun _ _ _ h => False.elim h) (Or.inl ⟨by rfl, ?_⟩) (by assumption) ?_
          rotate_left
          · intro w hSw
            (try dsimp only at hSw)
            go_simp
            all_goals with_reducible rfl
          (try simp only [Act.put, List.setIfInBounds_toArray, List.set_cons_zero, List.set_cons_succ])
          refine wpAnyH_done (by kernel_rfl) ?_ _
          refine NoPanic.normal ?_
          go_wp2_with fail
          go_roundg (n - (k + 1))
          case rel => exact ⟨k + 1, rfl, HF.out.1, (by go_num), HE2.out, HBd.out⟩
          case measure => exact HF.out.2
        · have g1 : (x == y) = false := beq_eq_false_iff_ne.2 hxy
          have g2 : (x != y) = true := by simp [hxy]
          have HNE := Lib.hid (show ¬ xs = ys from fun h => hxy (by rw [← HX.out, ← HY.out, h]))
          clear hxy
          go_wp2_with fail
          refine wp_region_noPanic ?_
          refine wp_region_held_drew (S := (fun w' => w'.cell? ⟨b, off + k, none⟩ = some (.int .u32 x) ∧ w'.cell? ⟨b2, off2 + k, none⟩ = some (.int .u32 y))) (by kernel_rfl) ?_ (fun hHeld => ?_)
          · ((try dsimp only); refine ⟨?_, ?_⟩ <;> (first | assumption | (go_keep; done)))
          refine wpAnyH_take (i := 0) (oi := ⟨some 17, _, _, _, _, _⟩) (v := ?_) rfl (by kernel_rfl) (by kernel_rfl) (by kernel_rfl) (fun _ _ _ h => False.elim h) (Or.inl ⟨by rfl, ?_⟩) (by assumption) ?_
          rotate_left
          · intro w hSw
            (try dsimp only at hSw)
            go_simp
            all_goals with_reducible rfl
          (try simp only [Act.put, List.setIfInBounds_toArray, List.set_cons_zero, List.set_cons_succ])
          refine wpAnyH_take (i := 1) (oi := ⟨some 18, _, _, _, _, _⟩) (v := ?_) rfl (by kernel_rfl) (by kernel_rfl) (by kernel_rfl) (fun _ _ _ h => False.elim h) (Or.inl ⟨by rfl, ?_⟩) (by assumption) ?_
          rotate_left
          · intro w hSw
            (try dsimp only at hSw)
            go_simp
            all_goals with_reducible rfl
          (try simp only [Act.put, List.setIfInBounds_toArray, List.set_cons_zero, List.set_cons_succ])
          refine wpAnyH_take (i := 2) (oi := ⟨some 19, _, _, _, _, _⟩) (v := ?_) rfl (by kernel_rfl) (by kernel_rfl) (by kernel_rfl) (fun _ _ _ h => False.elim h) (Or.inl ⟨by rfl, ?_⟩) (by assumption) ?_
          rotate_left
          · intro w hSw
            (try dsimp only at hSw)
            go_simp
            all_goals with_reducible rfl
          (try simp only [Act.put, List.setIfInBounds_toArray, List.set_cons_zero, List.set_cons_succ])
          refine wpAnyH_take (i := 3) (oi := ⟨some 20, _, _, _, _, _⟩) (v := ?_) rfl (by kernel_rfl) (by kernel_rfl) (by kernel_rfl) (fun _ _ _ h => False.elim h) (Or.inl ⟨by rfl, ?_⟩) (by assumption) ?_
          rotate_left
          · intro w hSw
            (try dsimp only at hSw)
            go_simp
            all_goals with_reducible rfl
          (try simp only [Act.put, List.setIfInBounds_toArray, List.set_cons_zero, List.set_cons_succ])
          refine wpAnyH_take (i := 4) (oi := ⟨some 21, _, _, _, _, _⟩) (v := ?_) rfl (by kernel_rfl) (by kernel_rfl) (by kernel_rfl) (fun _ _ _ h => False.elim h) (Or.inl ⟨by rfl, ?_⟩) (by assumption) ?_
          rotate_left
          · intro w hSw
            (try dsimp only at hSw)
            go_simp
            all_goals with_reducible rfl
          (try simp only [Act.put, List.setIfInBounds_toArray, List.set_cons_zero, List.set_cons_succ])
          refine wpAnyH_take (i := 5) (oi := ⟨some 22, _, _, _, _, _⟩) (v := ?_) rfl (by kernel_rfl) (by kernel_rfl) (by kernel_rfl) (fun _ _ _ h => False.elim h) (Or.inl ⟨by rfl, ?_⟩) (by assumption) ?_
          rotate_left
          · intro w hSw
            (try dsimp only at hSw)
            go_simp
            all_goals with_reducible rfl
          (try simp only [Act.put, List.setIfInBounds_toArray, List.set_cons_zero, List.set_cons_succ])
          refine wpAnyH_take (i := 6) (oi := ⟨some 23, _, _, _, _, _⟩) (v := ?_) rfl (by kernel_rfl) (by kernel_rfl) (by kernel_rfl) (fun _ _ _ h => False.elim h) (Or.inl ⟨by rfl, ?_⟩) (by assumption) ?_
          rotate_left
          · intro w hSw
            (try dsimp only at hSw)
            go_simp
            all_goals with_reducible rfl
          (try simp only [Act.put, List.setIfInBounds_toArray, List.set_cons_zero, List.set_cons_succ])
          refine wpAnyH_take (i := 7) (oi := ⟨some 24, _, _, _, _, _⟩) (v := ?_) rfl (by kernel_rfl) (by kernel_rfl) (by kernel_rfl) (fun _ _ _ h => False.elim h) (Or.inl ⟨by rfl, ?_⟩) (by assumption) ?_
          rotate_left
          · intro w hSw
            (try dsimp only at hSw)
            go_simp
            all_goals with_reducible rfl
          (try simp only [Act.put, List.setIfInBounds_toArray, List.set_cons_zero, List.set_cons_succ])
          refine wpAnyH_take (i := 8) (oi := ⟨some 25, _, _, _, _, _⟩) (v := ?_) rfl (by kernel_rfl) (by kernel_rfl) (by kernel_rfl) (fun _ _ _ h => False.elim h) (Or.inl ⟨by rfl, ?_⟩) (by assumption) ?_
          rotate_left
          · intro w hSw
            (try dsimp only at hSw)
            go_simp
            all_goals with_reducible rfl
          (try simp only [Act.put, List.setIfInBounds_toArray, List.set_cons_zero, List.set_cons_succ])
          refine wpAnyH_done (by kernel_rfl) ?_ _
          refine NoPanic.normal ?_
          go_wp2_with fail
          go_ret
          exact ⟨false, rfl, ⟨(fun h => by cases h), (fun h => absurd h HNE.out)⟩, HBd.out⟩
      · have hltf : ((k : Int) < (n : Int)) = False := eq_false hlt
        have HEQ := Lib.hid (show xs = ys from List.ext_getElem (by rw [HL.out.1, HL.out.2]) (fun j h1 h2 => by
          have := HE.out j (by have := HL.out.1; omega)
          rwa [List.getElem?_eq_getElem h1, List.getElem?_eq_getElem h2] at this))
        clear hlt hk
        go_wp2_with fail
        go_ret
        exact ⟨true, rfl, ⟨fun _ => HEQ.out, fun _ => rfl⟩, HB.out⟩
  · have f1 : ((n : Int) != (m : Int)) = true := by simp; omega
    have HNE := Lib.hid (show ¬ xs = ys from fun h => hnm (by rw [← hl1, ← hl2, h]))
    clear r s hl1 hl2 hnm
    go_enter Tryz.func18, Tryz.ntmps18
    go_wp2_with fail
    go_ret
    exact ⟨false, rfl, ⟨(fun h => by cases h), (fun h => absurd h HNE.out)⟩, Below.refl _ _⟩
end Go.Proofs.YtgecfcdafbedaaaGreatDoor

namespace Go.Proofs.YtgecfcdafbedaaaGreatDoor
open Go.RowKit
set_option linter.unusedSimpArgs false
set_option linter.unusedVariables false

section
variable {w : World} {p g : Nat} {l : List Spt} {cr : Int}
theorem best_at (h : SetAt w p g l cr) (a : Int) (q : Bool) (hb : bestOf l = (a, q)) : Calls Tryz.prog 21 #[.pointer (some ⟨p, 0, none⟩)] w fun e w' => e = .returned (.tuple #[.int .u32 a, .bool q]) ∧ SetAt w' p g l cr ∧ Below w.heap.size w w' :=
  (best_any h).mono fun e w' ⟨he, hB⟩ => ⟨by rw [he, hb], h.below hB, hB⟩
theorem state_at (h : SetAt w p g l cr) (a s : Int) (hs : stateOf l a = s) : Calls Tryz.prog 24 #[.pointer (some ⟨p, 0, none⟩), .int .u32 a] w fun e w' => e = .returned (.int .u8 s) ∧ SetAt w' p g l cr ∧ Below w.heap.size w w' :=
  (state_any h a).mono fun e w' ⟨he, hB⟩ => ⟨by rw [he, hs], h.below hB, hB⟩
theorem change_ok (h : SetAt w p g l cr) (A : Option Addr) (n c : Nat) (xs : List Int) (r : Rd w .u32 A n xs) (hnc : n ≤ c) (hok : SpOk n (atL xs)) (l' : List Spt) (ys : List Int) (m : Nat) (hl : changeL l xs = l') (hy : othersL l xs = ys) (hm : ys.length = m) :
    Calls Tryz.prog 16 #[.pointer (some ⟨p, 0, none⟩), .slice A n c] w fun e w' => ∃ A' G, e = .returned (.tuple #[.slice A' m m, .int .i64 0]) ∧ ListR w.heap.size w' ys A' ∧ w.heap.size ≤ G ∧ SetAt w' p G l' cr ∧ Keeps (fun i => i = p) w w' :=
  (change_any h A n c xs r hnc (by have := hok.2.1; omega)).mono fun e w' hh => by
    rcases hh with ⟨hno, _⟩ | ⟨_, A', G, he, h1, h2, h3, h4⟩
    · exact absurd hok hno
    · subst hm
      rw [hl] at h3
      rw [hy] at he h1
      exact ⟨A', G, he, h1, h2, h3, h4⟩
theorem change_bad (h : SetAt w p g l cr) (A : Option Addr) (n c : Nat) (xs : List Int) (r : Rd w .u32 A n xs) (hnc : n ≤ c) (hn : n ≤ 35184372087808) (hno : ¬ SpOk n (atL xs)) :
    Calls Tryz.prog 16 #[.pointer (some ⟨p, 0, none⟩), .slice A n c] w fun e w' => e = .returned (.tuple #[.slice none 0 0, .int .i64 1]) ∧ SetAt w' p g l cr ∧ Below w.heap.size w w' :=
  (change_any h A n c xs r hnc hn).mono fun e w' hh => by
    rcases hh with ⟨_, he, h1, h2⟩ | ⟨hok, _⟩
    · exact ⟨he, h1, h2⟩
    · exact absurd hok hno
theorem ask_at (h : SetAt w p g l cr) (a : Int) (bs : List Int) (hbs : bs.length = 32) (E : Int) (he : askE l a = E) (l' : Nat → List Spt) (hl : ∀ X, askL l a X bs = l' X) :
    Calls Tryz.prog 8 #[.pointer (some ⟨p, 0, none⟩), .int .u32 a, .agg (bs.map (Value.int .u8)).toArray] w fun e w' => ∃ X, e = .returned (.int .i64 E) ∧ SetAt w' p g (l' X) cr ∧ Keeps (fun i => i = g) w w' :=
  (ask_any h a bs hbs).mono fun e w' ⟨X, _, h1, h2, h3⟩ => ⟨X, by rw [h1, he], by rw [← hl]; exact h2, h3⟩
theorem back_at (h : SetAt w p g l cr) (bs : List Int) (hbs : bs.length = 32) (a E : Int) (he : backE l bs = (a, E)) (l' : List Spt) (hl : backL l bs = l') :
    Calls Tryz.prog 10 #[.pointer (some ⟨p, 0, none⟩), .agg (bs.map (Value.int .u8)).toArray] w fun e w' => e = .returned (.tuple #[.int .u32 a, .int .i64 E]) ∧ SetAt w' p g l' cr ∧ Keeps (fun i => i = g) w w' :=
  (back_any h bs hbs).mono fun e w' ⟨h1, h2, h3⟩ => ⟨by rw [h1, he], by rw [← hl]; exact h2, h3⟩
theorem came_at (h : SetAt w p g l cr) (b c : Int) (hb : -9223372036854775808 ≤ b ∧ b ≤ 9223372036854775807) (hc : cameC cr b = c) :
    Calls Tryz.prog 12 #[.pointer (some ⟨p, 0, none⟩), .int .i64 b] w fun e w' => e = .returned (.tuple #[]) ∧ SetAt w' p g l c ∧ Keeps (fun i => i = p) w w' :=
  (came_any h b hb).mono fun e w' ⟨h1, h2, h3⟩ => ⟨h1, by rw [← hc]; exact h2, h3⟩
theorem spend_at (h : SetAt w p g l cr) (b E c : Int) (hb : -9223372036854775808 ≤ b ∧ b ≤ 9223372036854775807) (he : spendE l cr b = E) (hc : spendC l cr b = c) :
    Calls Tryz.prog 14 #[.pointer (some ⟨p, 0, none⟩), .int .i64 b] w fun e w' => e = .returned (.int .i64 E) ∧ SetAt w' p g l c ∧ Keeps (fun i => i = p) w w' :=
  (spend_any h b hb).mono fun e w' ⟨h1, h2, h3⟩ => ⟨by rw [h1, he], by rw [← hc]; exact h2, h3⟩
end
theorem spok1 {a : Int} (h : a ≠ 0) : SpOk 1 (atL [a]) := by
  refine ⟨by omega, by omega, fun j hj => ?_, fun i j hi hj => by omega⟩
  obtain rfl : j = 0 := by omega
  exact h
theorem spok2 {a b : Int} (h1 : a ≠ 0) (h2 : b ≠ 0) (h : a ≠ b) : SpOk 2 (atL [a, b]) := by
  refine ⟨by omega, by omega, fun j hj => ?_, fun i j hi hj => ?_⟩
  · have hj' : j = 0 ∨ j = 1 := by omega
    rcases hj' with rfl | rfl
    · exact h1
    · exact h2
  · obtain rfl : i = 0 := by omega
    obtain rfl : j = 1 := by omega
    exact h
theorem rd_spots {w : World} {xs : List Int} {n : Nat} (hl : xs.length = n) (hn : n ≤ 140737488351232) (hb : ∀ x ∈ xs, 0 ≤ x ∧ x ≤ 4294967295) : Rd (w.alloc (.cells (xs.map (Value.int .u32)).toArray 23)) .u32 (some ⟨w.heap.size, 0, none⟩) n xs :=
  have hk := Blk.new w 23 (xs.map (Value.int .u32))
  ⟨hl, hn, fun x hx => wf_of_u32S (hb x hx), fun h0 => ⟨_, 0, rfl, hk.lt, fun j hj => by rw [Nat.zero_add]; exact hk.int_at j (by omega)⟩⟩
/-- A list's first spot, and its block. -/
theorem ListR.one {base : Nat} {w : World} {a : Int} {A : Option Addr} (h : ListR base w [a] A) : ∃ G cells, A = some ⟨G, 0, none⟩ ∧ base ≤ G ∧ Blk w G 23 cells ∧ cells[0]? = some (.int .u32 a) := by
  obtain ⟨G, cells, h1, h2, h3, h4⟩ := h.1 (by simp)
  refine ⟨G, cells, h1, h2, h3, ?_⟩
  have : cells[0]? = (cells.take 1)[0]? := by simp [List.getElem?_take]
  rw [this, show cells.take 1 = _ from h4]; rfl
end Go.Proofs.YtgecfcdafbedaaaGreatDoor
