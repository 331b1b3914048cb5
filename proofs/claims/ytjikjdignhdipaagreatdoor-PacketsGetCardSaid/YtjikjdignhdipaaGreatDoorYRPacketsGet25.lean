/- The walks over BytesSize, ParamSize, ParamsSize; The walks over SameParam, SameParams: what is the same is told to be. -/
import Derived.Test.YtjikjdignhdipaaGreatDoorYRPacketsGet24
import Derived.Test.YtjikjdignhdipaaGreatDoorYRPacketsGet18
import Derived.Test.YtjikjdignhdipaaGreatDoorYRPacketsGet23
namespace Go.Proofs.YtjikjdignhdipaaGreatDoor
open Go.RowKit
set_option linter.unusedSimpArgs false
set_option linter.unusedVariables false

/-- How much is counted of pieces, beyond most no more. -/
def cntP : Nat → List Piece → Nat
  | n, [] => n
  | n, p :: l => if n ≤ 1048576 then cntP (n + (1 + p.2.length)) l else n
def psSize (ps : List Piece) : Nat := cntP ps.length ps
def pkSize (ps : List Piece) : Nat := 1 + psSize ps
theorem cntP_mono : ∀ (l : List Piece) (n : Nat), n ≤ cntP n l
  | [], n => Nat.le_refl _
  | p :: l, n => by
    rw [cntP]; split
    · have := cntP_mono l (n + (1 + p.2.length)); omega
    · exact Nat.le_refl _
theorem cntP_small : ∀ (l : List Piece) (n : Nat), cntP n l ≤ 1048576 → ∀ p ∈ l, p.2.length + 1 ≤ cntP n l
  | [], n, _, p, hp => by simp at hp
  | q :: l, n, h, p, hp => by
    rw [cntP] at h ⊢
    split
    · rename_i hn
      rw [if_pos hn] at h
      rcases List.mem_cons.1 hp with rfl | hp
      · have := cntP_mono l (n + (1 + p.2.length)); omega
      · exact cntP_small l _ h p hp
    · rename_i hn
      rw [if_neg hn] at h
      omega
theorem cntP_le (M : Nat) : ∀ (l : List Piece) (n : Nat), (∀ p ∈ l, p.2.length ≤ M) → n ≤ 1048577 + M + 4398046510976 → cntP n l ≤ 1048577 + M + 4398046510976
  | [], n, _, h => h
  | p :: l, n, hl, h => by
    rw [cntP]; split
    · refine cntP_le M l _ (fun q hq => hl q (by simp [hq])) ?_
      have := hl p (by simp)
      omega
    · exact h
theorem cntP_drop (n : Nat) (ps : List Piece) (k : Nat) (p : Piece) (hp : ps[k]? = some p) (hn : n ≤ 1048576) : cntP n (ps.drop k) = cntP (n + (1 + p.2.length)) (ps.drop (k + 1)) := by
  have hk := (List.getElem?_eq_some_iff.1 hp).1
  have he := (List.getElem?_eq_some_iff.1 hp).2
  rw [List.drop_eq_getElem_cons hk, he, cntP, if_pos hn]
set_option maxRecDepth 100000 in
set_option maxHeartbeats 1000000 in
theorem bsize_any (A : Option Addr) (n c : Nat) (w : World) : Calls Tryz.prog 137 #[.slice A n c] w fun e w' => e = .returned (.int .i64 (n : Int)) ∧ w = w' := by
  go_enter Tryz.func137, Tryz.ntmps137
  go_wp2_with fail
  go_ret
  exact ⟨rfl, rfl⟩
set_option maxRecDepth 100000 in
set_option maxHeartbeats 1000000 in
theorem psize_any (t : Int) (A : Option Addr) (n c : Nat) (w : World) (hn : n ≤ 140737488351232) : Calls Tryz.prog 90 #[.agg #[.int .u16 t, .slice A n c]] w fun e w' => e = .returned (.int .i64 ((1 + n : Nat) : Int)) ∧ Below w.heap.size w w' := by
  have hw : IntKind.i64.wrap (1 + (n : Int)) = ((1 + n : Nat) : Int) := by rw [IntWalk.i64_in _ (by omega)]; omega
  go_enter Tryz.func90, Tryz.ntmps90
  go_wp2_with fail
  refine (bsize_any A n c _).mono ?_; rintro e w1 ⟨rfl, rfl⟩
  go_wp2_with fail
  go_ret
  exact ⟨rfl, (Below.refl _ _).alloc (Nat.le_refl _) _⟩
set_option maxRecDepth 100000 in
set_option maxHeartbeats 2000000 in
theorem pssize_any (A : Option Addr) (n c : Nat) (ps : List Piece) (w : World) (h : Ps w A n ps) : Calls Tryz.prog 22 #[.slice A n c] w fun e w' => e = .returned (.int .i64 (psSize ps : Int)) ∧ Below w.heap.size w w' := by
  have hbig := h.big
  have hl := h.len
  have HPS := Lib.hid h
  have HL := Lib.hid hl
  clear h hl
  go_enter Tryz.func22, Tryz.ntmps22
  go_wp2_with fail
  go_loopw [3, 4] (fun v i wr => ∃ k m : Nat, k ≤ n ∧ i = .int .i64 k ∧ v = .int .i64 (m : Int) ∧ m ≤ 281474976710656 ∧ cntP m (ps.drop k) = psSize ps ∧ Below w.heap.size w wr) (fun _ i _ => n - (intOf i).toNat)
  case atStart => exact ⟨0, n, Nat.zero_le _, rfl, rfl, by omega, by rw [psSize, HL.out]; rfl, Below.refl _ _⟩
  case round =>
    obtain ⟨k, m, hk, rfl, rfl, hm, hc, hB⟩ := hrel
    have k0 : (0 : Int) ≤ (k : Int) := by omega
    have m0 : (0 : Int) ≤ (m : Int) := by omega
    have kadd : IntKind.i64.wrap ((k : Int) + 1) = (k : Int) + 1 := IntWalk.i64_in _ (by omega)
    by_cases hlt : k < n
    · have k1 : (k : Int) < (n : Int) := by omega
      have k2 : decide ((k : Int) < (n : Int)) = true := decide_eq_true k1
      have k3 : decide (k < n) = true := decide_eq_true hlt
      by_cases hm2 : m ≤ 1048576
      · obtain ⟨b, off, rfl, hb, hcc⟩ := (HPS.out.below hB).row (by omega)
        obtain ⟨t, body, B, ml, d, h1, h2, h3, h4, h5, h6, h7⟩ := hcc k hlt
        obtain rfl : body.length = ml := h5.len
        have hcd := cntP_drop m ps k (t, body) h1 hm2
        rw [hcd] at hc
        have hbl := h5.big
        have m1 : (m : Int) ≤ 1048576 := by omega
        have m2 : decide ((m : Int) ≤ 1048576) = true := decide_eq_true m1
        have hw : IntKind.i64.wrap ((m : Int) + ((1 + body.length : Nat) : Int)) = ((m + (1 + body.length) : Nat) : Int) := by rw [IntWalk.i64_in _ (by omega)]; omega
        have hw2 : IntKind.i64.wrap ((m : Int) + (1 + (body.length : Int))) = ((m + (1 + body.length) : Nat) : Int) := by rw [IntWalk.i64_in _ (by omega)]; omega
        have HC := Lib.hid hc
        have HB := Lib.hid hB
        have HCALL := Lib.hid (psize_any t B body.length d wr hbl)
        clear hc hB hcc h1 h2 h5 h6 h7 hcd
        go_wp2_with fail
        refine HCALL.out.mono ?_; rintro e w1 ⟨rfl, hB1⟩
        have HB1 := Lib.hid (HB.out.trans (hB1.mono HB.out.size))
        clear hB1
        go_wp2_with fail
        go_roundw
        case rel => exact ⟨k + 1, m + (1 + body.length), by omega, by go_num, by go_num, by omega, HC.out, HB1.out⟩
        case measure => simp [intOf]; omega
      · have m1 : ¬ (m : Int) ≤ 1048576 := by omega
        have m2 : decide ((m : Int) ≤ 1048576) = false := decide_eq_false m1
        have hfin : psSize ps = m := by
          rw [← hc]
          have hkl : k < ps.length := by rw [HL.out]; exact hlt
          rw [List.drop_eq_getElem_cons hkl, cntP, if_neg hm2]
        have HF := Lib.hid hfin
        have HB := Lib.hid hB
        clear hc hB hfin
        go_wp2_with fail
        go_ret
        exact ⟨ret_int (by rw [HF.out]), HB.out⟩
    · obtain rfl : k = n := by omega
      have k3 : ¬ ((k : Int) < (k : Int)) := by omega
      have hfin : psSize ps = m := by
        rw [← hc, List.drop_eq_nil_of_le (by rw [HL.out]; exact Nat.le_refl _)]; rfl
      have HF := Lib.hid hfin
      have HB := Lib.hid hB
      clear hc hB hfin
      go_wp2_with fail
      go_ret
      exact ⟨ret_int (by rw [HF.out]), HB.out⟩
end Go.Proofs.YtjikjdignhdipaaGreatDoor

namespace Go.Proofs.YtjikjdignhdipaaGreatDoor
open Go.RowKit
set_option linter.unusedSimpArgs false
set_option linter.unusedVariables false

set_option maxHeartbeats 1000000 in
theorem samep_any (t : Int) (A1 A2 : Option Addr) (n1 c1 n2 c2 : Nat) (body : List Int) (w : World) (r1 : Rd w .u8 A1 n1 body) (r2 : Rd w .u8 A2 n2 body) :
    Calls Tryz.prog 136 #[.agg #[.int .u16 t, .slice A1 n1 c1], .agg #[.int .u16 t, .slice A2 n2 c2]] w fun e w' => e = .returned (.bool true) ∧ Below w.heap.size w w' := by
  have hB : Below w.heap.size w ((w.alloc (.cells #[.int .u16 t, .slice A1 n1 c1] 82)).alloc (.cells #[.int .u16 t, .slice A2 n2 c2] 82)) := ((Below.refl _ _).alloc (Nat.le_refl _) _).alloc (by simp) _
  have hs := same_any A1 n1 c1 body A2 n2 c2 body _ (r1.below hB) (r2.below hB)
  rw [decide_eq_true rfl] at hs
  have HS := Lib.hid hs
  have HB := Lib.hid hB
  clear hs hB r1 r2
  go_enter Tryz.func136, Tryz.ntmps136
  go_wp2_with fail
  refine HS.out.mono ?_; rintro e w1 ⟨rfl, hD⟩
  have hB1 := below_drawn HB.out hD
  go_wp2_with fail
  go_ret
  exact ⟨rfl, hB1⟩

set_option maxRecDepth 100000 in
set_option maxHeartbeats 2000000 in
theorem sameps_any (A1 A2 : Option Addr) (n1 c1 n2 c2 : Nat) (ps : List Piece) (w : World) (p1 : Ps w A1 n1 ps) (p2 : Ps w A2 n2 ps) :
    Calls Tryz.prog 89 #[.slice A1 n1 c1, .slice A2 n2 c2] w fun e w' => e = .returned (.bool true) ∧ Below w.heap.size w w' := by
  have hn : n1 = n2 := p1.len.symm.trans p2.len
  subst hn
  have hbig := p1.big
  have hl := p1.len
  have HP1 := Lib.hid p1
  have HP2 := Lib.hid p2
  clear p1 p2
  go_enter Tryz.func89, Tryz.ntmps89
  go_wp2_with fail
  go_loopw [5] (fun i wr => ∃ k : Nat, k ≤ n1 ∧ i = .int .i64 k ∧ Below w.heap.size w wr) (fun i _ => n1 - (intOf i).toNat)
  case atStart => exact ⟨0, Nat.zero_le _, rfl, Below.refl _ _⟩
  case round =>
    obtain ⟨k, hk, rfl, hB⟩ := hrel
    by_cases hlt : k < n1
    · obtain ⟨b1, o1, rfl, hb1, hc1⟩ := (HP1.out.below hB).row (by omega)
      obtain ⟨b2, o2, rfl, hb2, hc2⟩ := (HP2.out.below hB).row (by omega)
      obtain ⟨t, body, B1, m1, d1, h1, h2, h3, h4, h5, h6, h7⟩ := hc1 k hlt
      obtain ⟨t', body', B2, m2, d2, g1, g2, g3, g4, g5, g6, g7⟩ := hc2 k hlt
      rw [h1] at g1
      simp only [Option.some.injEq, Prod.mk.injEq] at g1
      obtain ⟨rfl, rfl⟩ := g1
      have i0 : (0 : Int) ≤ (k : Int) := by omega
      have i1 : (k : Int) < (n1 : Int) := by omega
      have hs := samep_any t B1 B2 m1 d1 m2 d2 body wr.drew (h5.below (drew_below wr)) (g5.below (drew_below wr))
      have HS := Lib.hid hs
      have HB := Lib.hid hB
      clear hc1 hc2 h1 h2 g2 h5 g5 h6 g6 h7 g7 hs hB hl
      go_wp2_with fail
      go_region_held3 (fun w' => w'.cell? ⟨b1, o1 + k * 2, none⟩ = some (.int .u16 t) ∧ w'.cell? ⟨b1, o1 + k * 2 + 1, none⟩ = some (.slice B1 m1 d1) ∧ w'.cell? ⟨b2, o2 + k * 2, none⟩ = some (.int .u16 t) ∧ w'.cell? ⟨b2, o2 + k * 2 + 1, none⟩ = some (.slice B2 m2 d2))
        (((try dsimp only); refine ⟨?_, ?_, ?_, ?_⟩ <;> (first | assumption | (go_keep; done))))
        (first
          | (go_at_call 136
             refine HS.out.mono ?_; rintro e w3 ⟨rfl, hB3⟩
             have k1 := (hB3.cell (p := ⟨b1, o1 + k * 2, none⟩) hb1).trans h3
             have k2 := (hB3.cell (p := ⟨b1, o1 + k * 2 + 1, none⟩) hb1).trans h4
             have k3 := (hB3.cell (p := ⟨b2, o2 + k * 2, none⟩) hb2).trans g3
             have k4 := (hB3.cell (p := ⟨b2, o2 + k * 2 + 1, none⟩) hb2).trans g4
             have HB3 := Lib.hid hB3
             clear hB3))
      have HB4 := Lib.hid (HB.out.trans (((drew_below wr).trans HB3.out).mono HB.out.size))
      go_wp2_with fail
      go_roundw
      case rel => exact ⟨k + 1, by omega, by go_num, HB4.out⟩
      case measure => simp [intOf]; omega
    · obtain rfl : k = n1 := by omega
      go_wp2_with fail
      go_ret
      exact ⟨rfl, hB⟩
end Go.Proofs.YtjikjdignhdipaaGreatDoor
