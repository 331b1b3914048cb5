/- The walk over SameSpots, of any spots; The walk over nums.GetLong. -/
import Derived.Test.YtlcnjdpfijgcdaaZRParamsBodiesBack26
import Derived.Test.YtlcnjdpfijgcdaaZRParamsBodiesBack15
import Derived.Test.YtlcnjdpfijgcdaaZRParamsBodiesBack23
namespace Go.Proofs.Ytlcnjdpfijgcdaa
open Go.RowKit Go.Shelf
set_option linter.unusedSimpArgs false
set_option linter.unusedVariables false

set_option maxRecDepth 100000 in
set_option maxHeartbeats 4000000 in
theorem samespots_any (A B : Option Addr) (n m c d : Nat) (xs ys : List Int) (w : World) (r : Rd w .u32 A n xs) (s : Rd w .u32 B m ys) :
    Calls Try.prog 23 #[.slice A n c, .slice B m d] w fun e w' => ∃ q : Bool, e = .returned (.bool q) ∧ (q = true ↔ xs = ys) ∧ Below w.heap.size w w' := by
  have hbig := r.big
  have hl1 := r.len
  have hl2 := s.len
  by_cases hnm : n = m
  · subst hnm
    have f1 : ((n : Int) != (n : Int)) = false := by simp
    have HR := Lib.hid r
    have HS := Lib.hid s
    have HL := Lib.hid (show xs.length = n ∧ ys.length = n from ⟨hl1, hl2⟩)
    clear r s hl1 hl2
    go_enter Try.func23, Try.ntmps23
    go_wp2_with fail
    go_loopg [5] n (fun gas s5 wr => ∃ k : Nat, n - k = gas ∧ k ≤ n ∧ s5 = .int .i64 (k : Int) ∧ (∀ j, j < k → xs[j]?.getD 0 = ys[j]?.getD 0) ∧ Below w.heap.size w wr)
    case atStart => exact ⟨0, rfl, Nat.zero_le _, rfl, fun j hj => by omega, Below.refl _ _⟩
    case round =>
      obtain ⟨k, rfl, hk, rfl, hE, hB⟩ := hrel
      have HE := Lib.hid hE
      have HB := Lib.hid hB
      clear hE hB
      by_cases hlt : (k : Int) < (n : Int)
      · have hkn : k < n := by omega
        obtain ⟨b, off, rfl, hb, hc⟩ := HR.out.row (by omega)
        obtain ⟨b2, off2, rfl, hb2, hc2⟩ := HS.out.row (by omega)
        have c1 := (HB.out.cell (p := ⟨b, off + k, none⟩) hb).trans (hc k hkn)
        have c2 := (HB.out.cell (p := ⟨b2, off2 + k, none⟩) hb2).trans (hc2 k hkn)
        obtain ⟨x, hx⟩ : ∃ x, xs[k]?.getD 0 = x := ⟨_, rfl⟩
        obtain ⟨y, hy⟩ : ∃ y, ys[k]?.getD 0 = y := ⟨_, rfl⟩
        rw [hx] at c1
        rw [hy] at c2
        have HX := Lib.hid hx
        have HY := Lib.hid hy
        have hwk : IntKind.i64.wrap ((k : Int) + 1) = ((k + 1 : Nat) : Int) := by rw [IntWalk.i64_in _ (by omega)]; omega
        have k0 : (0 : Int) ≤ (k : Int) := by omega
        have HF := Lib.hid (show k + 1 ≤ n ∧ n - (k + 1) < n - k by omega)
        have HBd := Lib.hid (show Below w.heap.size w wr.drew from ⟨HB.out.os, HB.out.tape, HB.out.output, HB.out.size, HB.out.block⟩)
        clear hx hy hc hc2 hk
        by_cases hxy : x = y
        · have g1 : (x == y) = true := beq_iff_eq.2 hxy
          have g2 : (x != y) = false := by simp [hxy]
          have HE2 := Lib.hid (show ∀ j, j < k + 1 → xs[j]?.getD 0 = ys[j]?.getD 0 from fun j hj => by
            by_cases h : j = k
            · subst h; rw [HX.out, HY.out]; exact hxy
            · exact HE.out j (by omega))
          clear hxy
          go_wp2_with fail
          refine wp_region_noPanic ?_
          refine wp_region_held_drew (S := (fun w' => w'.cell? ⟨b, off + k, none⟩ = some (.int .u32 x) ∧ w'.cell? ⟨b2, off2 + k, none⟩ = some (.int .u32 y))) (by kernel_rfl) ?_ (fun hHeld => ?_)
          · ((try dsimp only); refine ⟨?_, ?_⟩ <;> (first | assumption | (go_keep; done)))
          refine wpAnyH_take (i := 0) (oi := ⟨some 17, _, _, _, _, _⟩) (v := ?_) rfl (by kernel_rfl) (by kernel_rfl) (by kernel_rfl) (fun _ _ _ h => False.elim h) (Or.inl ⟨by rfl, ?_⟩) (by assumption) ?_
          rotate_left
          · intro w hSw
            (try dsimp only at hSw)
            go_simp
            all_goals with_reducible rfl
          (try simp only [Act.put, List.setIfInBounds_toArray, List.set_cons_zero, List.set_cons_succ])
          refine wpAnyH_take (i := 1) (oi := ⟨some 18, _, _, _, _, _⟩) (v := ?_) rfl (by kernel_rfl) (by kernel_rfl) (by kernel_rfl) (fun _ _ _ h => False.elim h) (Or.inl ⟨by rfl, ?_⟩) (by assumption) ?_
          rotate_left
          · intro w hSw
            (try dsimp only at hSw)
            go_simp
            all_goals with_reducible rfl
          (try simp only [Act.put, List.setIfInBounds_toArray, List.set_cons_zero, List.set_cons_succ])
          refine wpAnyH_take (i := 2) (oi := ⟨some 19, _, _, _, _, _⟩) (v := ?_) rfl (by kernel_rfl) (by kernel_rfl) (by kernel_rfl) (fun _ _ _ h => False.elim h) (Or.inl ⟨by rfl, ?_⟩) (by assumption) ?_
          rotate_left
          · intro w hSw
            (try dsimp only at hSw)
            go_simp
            all_goals with_reducible rfl
          (try simp only [Act.put, List.setIfInBounds_toArray, List.set_cons_zero, List.set_cons_succ])
          refine wpAnyH_take (i := 3) (oi := ⟨some 20, _, _, _, _, _⟩) (v := ?_) rfl (by kernel_rfl) (by kernel_rfl) (by kernel_rfl) (fun _ _ _ h => False.elim h) (Or.inl ⟨by rfl, ?_⟩) (by assumption) ?_
          rotate_left
          · intro w hSw
            (try dsimp only at hSw)
            go_simp
            all_goals with_reducible rfl
          (try simp only [Act.put, List.setIfInBounds_toArray, List.set_cons_zero, List.set_cons_succ])
          refine wpAnyH_take (i := 4) (oi := ⟨some 21, _, _, _, _, _⟩) (v := ?_) rfl (by kernel_rfl) (by kernel_rfl) (by kernel_rfl) (fun _ _ _ h => False.elim h) (Or.inl ⟨by rfl, ?_⟩) (by assumption) ?_
          rotate_left
          · intro w hSw
            (try dsimp only at hSw)
            go_simp
            all_goals with_reducible rfl
          (try simp only [Act.put, List.setIfInBounds_toArray, List.set_cons_zero, List.set_cons_succ])
          refine wpAnyH_take (i := 5) (oi := ⟨some 22, _, _, _, _, _⟩) (v := ?_) rfl (by kernel_rfl) (by kernel_rfl) (by kernel_rfl) (fun _ _ _ h => False.elim h) (Or.inl ⟨by rfl, ?_⟩) (by assumption) ?_
          rotate_left
          · intro w hSw
            (try dsimp only at hSw)
            go_simp
            all_goals with_reducible rfl
          (try simp only [Act.put, List.setIfInBounds_toArray, List.set_cons_zero, List.set_cons_succ])
          refine wpAnyH_take (i := 6) (oi := ⟨some 23, _, _, _, _, _⟩) (v := ?_) rfl (by kernel_rfl) (by kernel_rfl) (by kernel_rfl) (fun _ _ _ h => False.elim h) (Or.inl ⟨by rfl, ?_⟩) (by assumption) ?_
          rotate_left
          · intro w hSw
            (try dsimp only at hSw)
            go_simp
            all_goals with_reducible rfl
          (try simp only [Act.put, List.setIfInBounds_toArray, List.set_cons_zero, List.set_cons_succ])
          refine wpAnyH_take (i := 7) (oi := ⟨some 24, _, _, _, _, _⟩) (v := ?_) rfl (by kernel_rfl) (by kernel_rfl) (by kernel_rfl) (fun _ _ _ h => False.elim h) (Or.inl ⟨by rfl, ?_⟩) (by assumption) ?_
          rotate_left
          · intro w hSw
            (try dsimp only at hSw)
            go_simp
            all_goals with_reducible rfl
          (try simp only [Act.put, List.setIfInBounds_toArray, List.set_cons_zero, List.set_cons_succ])
          refine wpAnyH_take (i := 8) (oi := ⟨some 25, _, _, _, _, _⟩) (v := ?_) rfl (by kernel_rfl) (by kernel_rfl) (by kernel_rfl) (fun _ _ _ h => False.elim h) (Or.inl ⟨by rfl, ?_⟩) (by assumption) ?_
          rotate_left
          · intro w hSw
            (try dsimp only at hSw)
            go_simp
            all_goals with_reducible rfl
          (try simp only [Act.put, List.setIfInBounds_toArray, List.set_cons_zero, List.set_cons_succ])
          refine wpAnyH_done (by kernel_rfl) ?_ _
          refine NoPanic.normal ?_
          go_wp2_with fail
          go_roundg (n - (k + 1))
          case rel => exact ⟨k + 1, rfl, HF.out.1, (by go_num), HE2.out, HBd.out⟩
          case measure => exact HF.out.2
        · have g1 : (x == y) = false := beq_eq_false_iff_ne.2 hxy
          have g2 : (x != y) = true := by simp [hxy]
          have HNE := Lib.hid (show ¬ xs = ys from fun h => hxy (by rw [← HX.out, ← HY.out, h]))
          clear hxy
          go_wp2_with fail
          refine wp_region_noPanic ?_
          refine wp_region_held_drew (S := (fun w' => w'.cell? ⟨b, off + k, none⟩ = some (.int .u32 x) ∧ w'.cell? ⟨b2, off2 + k, none⟩ = some (.int .u32 y))) (by kernel_rfl) ?_ (fun hHeld => ?_)
          · ((try dsimp only); refine ⟨?_, ?_⟩ <;> (first | assumption | (go_keep; done)))
          refine wpAnyH_take (i := 0) (oi := ⟨some 17, _, _, _, _, _⟩) (v := ?_) rfl (by kernel_rfl) (by kernel_rfl) (by kernel_rfl) (fun _ _ _ h => False.elim h) (Or.inl ⟨by rfl, ?_⟩) (by assumption) ?_
          rotate_left
          · intro w hSw
            (try dsimp only at hSw)
            go_simp
            all_goals with_reducible rfl
          (try simp only [Act.put, List.setIfInBounds_toArray, List.set_cons_zero, List.set_cons_succ])
          refine wpAnyH_take (i := 1) (oi := ⟨some 18, _, _, _, _, _⟩) (v := ?_) rfl (by kernel_rfl) (by kernel_rfl) (by kernel_rfl) (fun _ _ _ h => False.elim h) (Or.inl ⟨by rfl, ?_⟩) (by assumption) ?_
          rotate_left
          · intro w hSw
            (try dsimp only at hSw)
            go_simp
            all_goals with_reducible rfl
          (try simp only [Act.put, List.setIfInBounds_toArray, List.set_cons_zero, List.set_cons_succ])
          refine wpAnyH_take (i := 2) (oi := ⟨some 19, _, _, _, _, _⟩) (v := ?_) rfl (by kernel_rfl) (by kernel_rfl) (by kernel_rfl) (fun _ _ _ h => False.elim h) (Or.inl ⟨by rfl, ?_⟩) (by assumption) ?_
          rotate_left
          · intro w hSw
            (try dsimp only at hSw)
            go_simp
            all_goals with_reducible rfl
          (try simp only [Act.put, List.setIfInBounds_toArray, List.set_cons_zero, List.set_cons_succ])
          refine wpAnyH_take (i := 3) (oi := ⟨some 20, _, _, _, _, _⟩) (v := ?_) rfl (by kernel_rfl) (by kernel_rfl) (by kernel_rfl) (fun _ _ _ h => False.elim h) (Or.inl ⟨by rfl, ?_⟩) (by assumption) ?_
          rotate_left
          · intro w hSw
            (try dsimp only at hSw)
            go_simp
            all_goals with_reducible rfl
          (try simp only [Act.put, List.setIfInBounds_toArray, List.set_cons_zero, List.set_cons_succ])
          refine wpAnyH_take (i := 4) (oi := ⟨some 21, _, _, _, _, _⟩) (v := ?_) rfl (by kernel_rfl) (by kernel_rfl) (by kernel_rfl) (fun _ _ _ h => False.elim h) (Or.inl ⟨by rfl, ?_⟩) (by assumption) ?_
          rotate_left
          · intro w hSw
            (try dsimp only at hSw)
            go_simp
            all_goals with_reducible rfl
          (try simp only [Act.put, List.setIfInBounds_toArray, List.set_cons_zero, List.set_cons_succ])
          refine wpAnyH_take (i := 5) (oi := ⟨some 22, _, _, _, _, _⟩) (v := ?_) rfl (by kernel_rfl) (by kernel_rfl) (by kernel_rfl) (fun _ _ _ h => False.elim h) (Or.inl ⟨by rfl, ?_⟩) (by assumption) ?_
          rotate_left
          · intro w hSw
            (try dsimp only at hSw)
            go_simp
            all_goals with_reducible rfl
          (try simp only [Act.put, List.setIfInBounds_toArray, List.set_cons_zero, List.set_cons_succ])
          refine wpAnyH_take (i := 6) (oi := ⟨some 23, _, _, _, _, _⟩) (v := ?_) rfl (by kernel_rfl) (by kernel_rfl) (by kernel_rfl) (fun _ _ _ h => False.elim h) (Or.inl ⟨by rfl, ?_⟩) (by assumption) ?_
          rotate_left
          · intro w hSw
            (try dsimp only at hSw)
            go_simp
            all_goals with_reducible rfl
          (try simp only [Act.put, List.setIfInBounds_toArray, List.set_cons_zero, List.set_cons_succ])
          refine wpAnyH_take (i := 7) (oi := ⟨some 24, _, _, _, _, _⟩) (v := ?_) rfl (by kernel_rfl) (by kernel_rfl) (by kernel_rfl) (fun _ _ _ h => False.elim h) (Or.inl ⟨by rfl, ?_⟩) (by assumption) ?_
          rotate_left
          · intro w hSw
            (try dsimp only at hSw)
            go_simp
            all_goals with_reducible rfl
          (try simp only [Act.put, List.setIfInBounds_toArray, List.set_cons_zero, List.set_cons_succ])
          refine wpAnyH_take (i := 8) (oi := ⟨some 25, _, _, _, _, _⟩) (v := ?_) rfl (by kernel_rfl) (by kernel_rfl) (by kernel_rfl) (fun _ _ _ h => False.elim h) (Or.inl ⟨by rfl, ?_⟩) (by assumption) ?_
          rotate_left
          · intro w hSw
            (try dsimp only at hSw)
            go_simp
            all_goals with_reducible rfl
          (try simp only [Act.put, List.setIfInBounds_toArray, List.set_cons_zero, List.set_cons_succ])
          refine wpAnyH_done (by kernel_rfl) ?_ _
          refine NoPanic.normal ?_
          go_wp2_with fail
          go_ret
          exact ⟨false, rfl, ⟨(fun h => by cases h), (fun h => absurd h HNE.out)⟩, HBd.out⟩
      · have hltf : ((k : Int) < (n : Int)) = False := eq_false hlt
        have HEQ := Lib.hid (show xs = ys from List.ext_getElem (by rw [HL.out.1, HL.out.2]) (fun j h1 h2 => by
          have := HE.out j (by have := HL.out.1; omega)
          rwa [List.getElem?_eq_getElem h1, List.getElem?_eq_getElem h2] at this))
        clear hlt hk
        go_wp2_with fail
        go_ret
        exact ⟨true, rfl, ⟨fun _ => HEQ.out, fun _ => rfl⟩, HB.out⟩
  · have f1 : ((n : Int) != (m : Int)) = true := by simp; omega
    have HNE := Lib.hid (show ¬ xs = ys from fun h => hnm (by rw [← hl1, ← hl2, h]))
    clear r s hl1 hl2 hnm
    go_enter Try.func23, Try.ntmps23
    go_wp2_with fail
    go_ret
    exact ⟨false, rfl, ⟨(fun h => by cases h), (fun h => absurd h HNE.out)⟩, Below.refl _ _⟩
end Go.Proofs.Ytlcnjdpfijgcdaa

namespace Go.Proofs.Ytlcnjdpfijgcdaa
open Go.RowKit
set_option linter.unusedSimpArgs false
set_option linter.unusedVariables false

/-- The words of a long number, the lowest first. -/
def longGot (bs : List Int) (n0 : Nat) : List Int := if n0 < 32 then [0, 0, 0, 0] else [told ((bs.drop 24).take 8), told ((bs.drop 16).take 8), told ((bs.drop 8).take 8), told ((bs.drop 0).take 8)]
def longE (n0 : Nat) : Int := if n0 < 32 then 5 else 0
def longOf (l : List Int) : Value := .agg (l.map (Value.int .u64)).toArray

/-- What is in four cells stays in them when it is put into them anew. -/
theorem Blk.again4 {w : World} {g : Nat} {t : TypeId} {a b c d : Value} (h : Blk w g t [a, b, c, d]) :
    Blk ((((w.setCell ⟨g, 0, none⟩ a).setCell ⟨g, 1, none⟩ b).setCell ⟨g, 2, none⟩ c).setCell ⟨g, 3, none⟩ d) g t [a, b, c, d] := by
  simpa using (((h.put 0 a).put 1 b).put 2 c).put 3 d

set_option maxRecDepth 100000 in
set_option maxHeartbeats 1000000 in
theorem getlong_any (A0 : Option Addr) (n0 c0 : Nat) (bs : List Int) (w : World) (r0 : Rd w .u8 A0 n0 bs) (l0 : n0 ≤ c0) :
    Calls Try.prog 68 #[.slice A0 n0 c0] w fun e w' => e = .returned (.tuple #[longOf (longGot bs n0), .int .i64 (longE n0)]) ∧ Below w.heap.size w w' := by
  have hbig := r0.big
  have hB1 : Below w.heap.size w (w.alloc (.cells ((List.replicate 4 (0 : Int)).map (Value.int .u64)).toArray 30)) := (Below.refl _ _).alloc (Nat.le_refl _) _
  have hk1 : Blk (w.alloc (.cells ((List.replicate 4 (0 : Int)).map (Value.int .u64)).toArray 30)) w.heap.size 30 ((List.replicate 4 (0 : Int)).map (Value.int .u64)) := Blk.new _ _ _
  by_cases ks : n0 < 32
  · have e1 : longGot bs n0 = [0, 0, 0, 0] := by unfold longGot; rw [if_pos ks]
    have e2 : longE n0 = 5 := by unfold longE; rw [if_pos ks]
    rw [e1, e2]
    clear e1 e2
    have HK := Lib.hid hk1
    have HB := Lib.hid hB1
    clear hk1 hB1
    go_enter Try.func68, Try.ntmps68
    go_wp2_with (refine wpList_value (o := ⟨some 2, .alloc 30, _, _, _, _⟩) (v := .pointer (some ⟨w.heap.size, 0, none⟩)) (w' := w.alloc (.cells ((List.replicate 4 (0 : Int)).map (Value.int .u64)).toArray 30)) rfl (by kernel_rfl) ?_)
    go_loopw [3, 6] (fun e i wr => e = .int .i64 0 ∧ i = .int .i64 0 ∧ wr = w.alloc (.cells ((List.replicate 4 (0 : Int)).map (Value.int .u64)).toArray 30)) (fun _ _ _ => 0)
    case atStart => exact ⟨rfl, rfl, rfl⟩
    case round =>
      obtain ⟨rfl, rfl, rfl⟩ := hrel
      go_wp2
      refine bodyPost_ret (results_row_tmp rfl _ _ w.heap.size [.int .u64 0, .int .u64 0, .int .u64 0, .int .u64 0] _ rfl ?_ Try.underlying30 rfl (by kernel_rfl)) rfl ?_
      · first | exact HK.out.again4 | exact HK.out
      · exact ⟨rfl, by first | exact HB.out | exact ((((HB.out.setCell (Nat.le_refl _) _).setCell (Nat.le_refl _) _).setCell (Nat.le_refl _) _).setCell (Nat.le_refl _) _)⟩
  · have e1 : longGot bs n0 = (List.range 4).map fun i => told ((bs.drop (24 - 8 * i)).take 8) := by unfold longGot; rw [if_neg ks]; rfl
    have e2 : longE n0 = 0 := by unfold longE; rw [if_neg ks]
    rw [e1, e2]
    clear e1 e2
    obtain ⟨b, off, rfl, hb, hc⟩ := r0.row (by omega)
    clear hc
    have hget : ∀ (i : Nat) (W : World), i < 4 → Below w.heap.size w W → Calls Try.prog 66 #[.slice (some ⟨b, off + (24 - 8 * i), none⟩) 8 (c0 - (24 - 8 * i)), .int .i64 8] W fun e W' => e = .returned (.tuple #[.int .u64 (told ((bs.drop (24 - 8 * i)).take 8)), .int .i64 0]) ∧ Below W.heap.size W W' := by
      intro i W hi hW
      have r1 := (r0.below hW).sub (24 - 8 * i) 8 (by omega)
      refine (get_any _ 8 (c0 - (24 - 8 * i)) _ 8 W r1 (by omega)).mono ?_
      rintro e W' ⟨rfl, h⟩
      have g1 : getE 8 8 = 0 := by decide
      refine ⟨?_, h⟩
      rw [getN, g1, if_pos rfl, show (8 : Int).toNat = 8 from rfl, List.take_take]
      rfl
    have HG := Lib.hid hget
    have HK := Lib.hid hk1
    have HB := Lib.hid hB1
    clear hk1 hB1 hget
    go_enter Try.func68, Try.ntmps68
    go_wp2_with (refine wpList_value (o := ⟨some 2, .alloc 30, _, _, _, _⟩) (v := .pointer (some ⟨w.heap.size, 0, none⟩)) (w' := w.alloc (.cells ((List.replicate 4 (0 : Int)).map (Value.int .u64)).toArray 30)) rfl (by kernel_rfl) ?_)
    go_loopw [3, 6] (fun e i wr => ∃ k : Nat, k ≤ 4 ∧ e = .int .i64 0 ∧ i = .int .i64 k ∧ Below w.heap.size w wr ∧ w.heap.size < wr.heap.size ∧
        Blk wr w.heap.size 30 (((List.range k).map (fun i => told ((bs.drop (24 - 8 * i)).take 8)) ++ List.replicate (4 - k) 0).map (Value.int .u64))) (fun _ i _ => 4 - (intOf i).toNat)
    case atStart => exact ⟨0, by omega, rfl, rfl, HB.out, HK.out.lt, HK.out⟩
    case round =>
      obtain ⟨k, hk, rfl, rfl, hB, hlt, hblk⟩ := hrel
      by_cases hk4 : k < 4
      · have hg := HG.out k wr hk4 hB
        obtain ⟨f, hf⟩ : ∃ f, 24 - 8 * k = f := ⟨_, rfl⟩
        rw [hf] at hg
        have hF : (32 : Int) - 8 * ((k : Int) + 1) = (f : Int) := by omega
        have hfr := hblk.free k
        go_wp2_with fail
        refine hg.mono ?_
        rintro e W' ⟨rfl, hB'⟩
        have hblk' := hblk.below hB' hlt
        have hfr' := hblk'.free k
        have hce := hblk'.int_at k (by simp; omega)
        have hput := hblk'.int_put k (told ((bs.drop f).take 8))
        have hl : ((List.range k).map (fun i => told ((bs.drop (24 - 8 * i)).take 8)) ++ List.replicate (4 - k) 0).set k (told ((bs.drop f).take 8)) = (List.range (k + 1)).map (fun i => told ((bs.drop (24 - 8 * i)).take 8)) ++ List.replicate (4 - (k + 1)) 0 := by
          rw [List.set_append, if_neg (by simp), List.range_succ, List.map_append, List.length_map, List.length_range, Nat.sub_self, show 4 - k = (4 - (k + 1)) + 1 by omega, List.replicate_succ]
          simp [hf]
        rw [hl] at hput
        have HP := Lib.hid hput
        clear hput hl
        generalize (((List.range k).map (fun i => told ((bs.drop (24 - 8 * i)).take 8)) ++ List.replicate (4 - k) 0)[k]?.getD 0) = old at *
        go_wp2_with fail
        refine ⟨⟨k + 1, by omega, rfl, by go_num, (hB.trans (hB'.mono hB.size)).setCell (Nat.le_refl _) _, by simpa [World.setCell] using Nat.lt_of_lt_of_le hlt hB'.size, HP.out⟩, by simp [intOf]; omega⟩
      · obtain rfl : k = 4 := by omega
        have z0 := hblk.cell 0
        have z1 := hblk.cell 1
        have z2 := hblk.cell 2
        have z3 := hblk.cell 3
        have f0 := hblk.free 0
        have f1 := hblk.free 1
        have f2 := hblk.free 2
        have f3 := hblk.free 3
        simp [List.range_succ] at z0 z1 z2 z3
        go_wp2
        simp [List.range_succ] at hblk
        refine bodyPost_ret (results_row_tmp rfl _ _ w.heap.size _ _ rfl hblk.again4 Try.underlying30 rfl (by kernel_rfl)) rfl ?_
        exact ⟨rfl, ((((hB.setCell (Nat.le_refl _) _).setCell (Nat.le_refl _) _).setCell (Nat.le_refl _) _).setCell (Nat.le_refl _) _)⟩
end Go.Proofs.Ytlcnjdpfijgcdaa
