/- The walks over SameParam, SameParams: what is the same is told to be; Arrays of whole numbers, compared. -/
import Derived.Test.YtjikjdignhdipaaGreatDoorYRPacketsGet22
import Derived.Test.YtjikjdignhdipaaGreatDoorYRPacketsGet28
import Derived.Test.YtjikjdignhdipaaGreatDoorBase
import Derived.Stop.BytesEq
namespace Go.Proofs.YtjikjdignhdipaaGreatDoor
open Go.RowKit
set_option linter.unusedSimpArgs false
set_option linter.unusedVariables false

set_option maxHeartbeats 1000000 in
theorem samep_any (t : Int) (A1 A2 : Option Addr) (n1 c1 n2 c2 : Nat) (body : List Int) (w : World) (r1 : Rd w .u8 A1 n1 body) (r2 : Rd w .u8 A2 n2 body) :
    Calls Tryz.prog 136 #[.agg #[.int .u16 t, .slice A1 n1 c1], .agg #[.int .u16 t, .slice A2 n2 c2]] w fun e w' => e = .returned (.bool true) ∧ Below w.heap.size w w' := by
  have hB : Below w.heap.size w ((w.alloc (.cells #[.int .u16 t, .slice A1 n1 c1] 82)).alloc (.cells #[.int .u16 t, .slice A2 n2 c2] 82)) := ((Below.refl _ _).alloc (Nat.le_refl _) _).alloc (by simp) _
  have hs := same_any A1 n1 c1 body A2 n2 c2 body _ (r1.below hB) (r2.below hB)
  rw [decide_eq_true rfl] at hs
  have HS := Lib.hid hs
  have HB := Lib.hid hB
  clear hs hB r1 r2
  go_enter Tryz.func136, Tryz.ntmps136
  go_wp2_with fail
  refine HS.out.mono ?_; rintro e w1 ⟨rfl, hD⟩
  have hB1 := below_drawn HB.out hD
  go_wp2_with fail
  go_ret
  exact ⟨rfl, hB1⟩

set_option maxRecDepth 100000 in
set_option maxHeartbeats 2000000 in
theorem sameps_any (A1 A2 : Option Addr) (n1 c1 n2 c2 : Nat) (ps : List Piece) (w : World) (p1 : Ps w A1 n1 ps) (p2 : Ps w A2 n2 ps) :
    Calls Tryz.prog 89 #[.slice A1 n1 c1, .slice A2 n2 c2] w fun e w' => e = .returned (.bool true) ∧ Below w.heap.size w w' := by
  have hn : n1 = n2 := p1.len.symm.trans p2.len
  subst hn
  have hbig := p1.big
  have hl := p1.len
  have HP1 := Lib.hid p1
  have HP2 := Lib.hid p2
  clear p1 p2
  go_enter Tryz.func89, Tryz.ntmps89
  go_wp2_with fail
  go_loopw [5] (fun i wr => ∃ k : Nat, k ≤ n1 ∧ i = .int .i64 k ∧ Below w.heap.size w wr) (fun i _ => n1 - (intOf i).toNat)
  case atStart => exact ⟨0, Nat.zero_le _, rfl, Below.refl _ _⟩
  case round =>
    obtain ⟨k, hk, rfl, hB⟩ := hrel
    by_cases hlt : k < n1
    · obtain ⟨b1, o1, rfl, hb1, hc1⟩ := (HP1.out.below hB).row (by omega)
      obtain ⟨b2, o2, rfl, hb2, hc2⟩ := (HP2.out.below hB).row (by omega)
      obtain ⟨t, body, B1, m1, d1, h1, h2, h3, h4, h5, h6, h7⟩ := hc1 k hlt
      obtain ⟨t', body', B2, m2, d2, g1, g2, g3, g4, g5, g6, g7⟩ := hc2 k hlt
      rw [h1] at g1
      simp only [Option.some.injEq, Prod.mk.injEq] at g1
      obtain ⟨rfl, rfl⟩ := g1
      have i0 : (0 : Int) ≤ (k : Int) := by omega
      have i1 : (k : Int) < (n1 : Int) := by omega
      have hs := samep_any t B1 B2 m1 d1 m2 d2 body wr.drew (h5.below (drew_below wr)) (g5.below (drew_below wr))
      have HS := Lib.hid hs
      have HB := Lib.hid hB
      clear hc1 hc2 h1 h2 g2 h5 g5 h6 g6 h7 g7 hs hB hl
      go_wp2_with fail
      go_region_held3 (fun w' => w'.cell? ⟨b1, o1 + k * 2, none⟩ = some (.int .u16 t) ∧ w'.cell? ⟨b1, o1 + k * 2 + 1, none⟩ = some (.slice B1 m1 d1) ∧ w'.cell? ⟨b2, o2 + k * 2, none⟩ = some (.int .u16 t) ∧ w'.cell? ⟨b2, o2 + k * 2 + 1, none⟩ = some (.slice B2 m2 d2))
        (((try dsimp only); refine ⟨?_, ?_, ?_, ?_⟩ <;> (first | assumption | (go_keep; done))))
        (first
          | (go_at_call 136
             refine HS.out.mono ?_; rintro e w3 ⟨rfl, hB3⟩
             have k1 := (hB3.cell (p := ⟨b1, o1 + k * 2, none⟩) hb1).trans h3
             have k2 := (hB3.cell (p := ⟨b1, o1 + k * 2 + 1, none⟩) hb1).trans h4
             have k3 := (hB3.cell (p := ⟨b2, o2 + k * 2, none⟩) hb2).trans g3
             have k4 := (hB3.cell (p := ⟨b2, o2 + k * 2 + 1, none⟩) hb2).trans g4
             have HB3 := Lib.hid hB3
             clear hB3))
      have HB4 := Lib.hid (HB.out.trans (((drew_below wr).trans HB3.out).mono HB.out.size))
      go_wp2_with fail
      go_roundw
      case rel => exact ⟨k + 1, by omega, by go_num, HB4.out⟩
      case measure => simp [intOf]; omega
    · obtain rfl : k = n1 := by omega
      go_wp2_with fail
      go_ret
      exact ⟨rfl, hB⟩
end Go.Proofs.YtjikjdignhdipaaGreatDoor

namespace Go.Proofs.YtjikjdignhdipaaGreatDoor
open Go.RowKit
set_option linter.unusedSimpArgs false
set_option linter.unusedVariables false
theorem all_range_int : ∀ (xs ys : List Int), xs.length = ys.length → (List.range xs.length).all (fun i => xs.getD i 0 == ys.getD i 0) = (xs == ys)
  | [], [], _ => rfl
  | x :: xs, y :: ys, h => by
    have ih := all_range_int xs ys (by simpa using h)
    simp only [List.length_cons, List.range_succ_eq_map, List.all_cons, List.all_map, List.getD_cons_zero]
    have : ((List.range xs.length).all ((fun i => (x :: xs).getD i 0 == (y :: ys).getD i 0) ∘ Nat.succ)) = (List.range xs.length).all (fun i => xs.getD i 0 == ys.getD i 0) := by
      congr 1
    rw [this, ih]
    simp [List.cons_beq_cons]
  | [], _ :: _, h => by simp at h
  | _ :: _, [], h => by simp at h
section
variable {P : Program} (w : World)
theorem run_equalIn_ints (d : Nat) (t e : TypeId) (n : Nat) (k : IntKind) (ht : P.underlying t = some (.array n e)) (he : P.underlying e = some (.int k)) (hsz : ∀ w, (sizeOf e).run P w = .ok 1 w)
    (xs ys : List Int) (hx : xs.length = n) (hy : ys.length = n) :
    (Op.equalIn (d + 2) t (.agg (xs.map (Value.int k)).toArray) (.agg (ys.map (Value.int k)).toArray)).run P w = .ok (xs == ys) w := by
  rw [← all_range_int xs ys (hx.trans hy.symm), hx, List.range_eq_range', Op.equalIn]
  simp only [Sem.run_bind, run_underlying ht, Result.andThen_ok, hsz, Std.Legacy.Range.forIn_eq_forIn_range', Std.Legacy.Range.size, Nat.sub_zero, Nat.add_sub_cancel, Nat.div_one]
  have hl : ∀ i ∈ List.range' 0 n 1, i < n := fun i hi => by simpa using (List.mem_range'_1.1 hi).2
  generalize List.range' 0 n 1 = l at hl ⊢
  induction l with
  | nil => simp
  | cons i l ih =>
    have hi : i < n := hl i (by simp)
    have px : (part e (xs.map (Value.int k)).toArray (i * 1)).run P w = .ok (Value.int k (xs.getD i 0)) w := by
      simp [part, isAgg, run_underlying he, List.getD, List.getElem?_eq_getElem (show i < xs.length by omega)]
    have py : (part e (ys.map (Value.int k)).toArray (i * 1)).run P w = .ok (Value.int k (ys.getD i 0)) w := by
      simp [part, isAgg, run_underlying he, List.getD, List.getElem?_eq_getElem (show i < ys.length by omega)]
    have pe : (Op.equalIn (d + 1) e (Value.int k (xs.getD i 0)) (Value.int k (ys.getD i 0))).run P w = .ok (xs.getD i 0 == ys.getD i 0) w := by
      rw [run_equalIn_int w d e k k _ _ he]
      first | done | simp
    simp only [List.forIn_cons, Sem.run_bind, px, py, pe, Result.andThen_ok, List.all_cons]
    cases hb : (xs.getD i 0 == ys.getD i 0)
    · simp
    · simp only [Bool.not_true, Bool.false_eq_true, if_false, Sem.run_pure, Result.andThen_ok, Bool.true_and]
      exact ih fun j hj => hl j (by simp [hj])
end
end Go.Proofs.YtjikjdignhdipaaGreatDoor
