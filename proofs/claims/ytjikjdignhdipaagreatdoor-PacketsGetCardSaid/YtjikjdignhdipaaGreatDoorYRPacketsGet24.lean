/- The walks over LeftParam, LeftParams: twins that were left as they were are told to be so. -/
import Derived.Test.YtjikjdignhdipaaGreatDoorYRPacketsGet22
import Derived.Test.YtjikjdignhdipaaGreatDoorYRPacketsGet23
namespace Go.Proofs.YtjikjdignhdipaaGreatDoor
open Go.RowKit
set_option linter.unusedSimpArgs false
set_option linter.unusedVariables false

theorem TwinRow.left {base : Nat} {w : World} {B : Option Addr} {body : List Int} {c : Nat} (h : TwinRow base w B body c) (hb : ∀ x ∈ body, 0 ≤ x ∧ x ≤ 255) (hn : body.length ≤ 70368744177664) (A1 : Option Addr) (c1 : Nat) (r1 : Rd w .u8 A1 body.length body) :
    Calls Tryz.prog 21 #[.slice B body.length c, .slice A1 body.length c1] w fun e w' => e = .returned (.bool true) ∧ Drawn w w' := by
  have hr := h.rd hb hn
  obtain ⟨g, rfl, h2, h3, h4, h5, h6⟩ := h
  exact left_any g body.length c body A1 c1 w h2 h3 hr r1

set_option maxHeartbeats 1000000 in
theorem leftp_any (base : Nat) (t : Int) (B A1 : Option Addr) (c c1 : Nat) (body : List Int) (w : World) (h : TwinRow base w B body c) (hb : ∀ x ∈ body, 0 ≤ x ∧ x ≤ 255) (hn : body.length ≤ 70368744177664) (r1 : Rd w .u8 A1 body.length body) :
    Calls Tryz.prog 101 #[.agg #[.int .u16 t, .slice B body.length c], .agg #[.int .u16 t, .slice A1 body.length c1]] w fun e w' => e = .returned (.bool true) ∧ Below w.heap.size w w' := by
  have hB : Below w.heap.size w ((w.alloc (.cells #[.int .u16 t, .slice B body.length c] 82)).alloc (.cells #[.int .u16 t, .slice A1 body.length c1] 82)) := ((Below.refl _ _).alloc (Nat.le_refl _) _).alloc (by simp) _
  have hs := (h.below hB).left hb hn A1 c1 (r1.below hB)
  have HS := Lib.hid hs
  have HB := Lib.hid hB
  clear hs hB r1 h
  go_enter Tryz.func101, Tryz.ntmps101
  go_wp2_with fail
  refine HS.out.mono ?_; rintro e w1 ⟨rfl, hD⟩
  have hB1 := below_drawn HB.out hD
  go_wp2_with fail
  go_ret
  exact ⟨rfl, hB1⟩

set_option maxRecDepth 100000 in
set_option maxHeartbeats 2000000 in
theorem leftps_any (base : Nat) (A A1 : Option Addr) (cap n1 c1 : Nat) (cells : List Value) (ps : List Piece) (w : World) (h : PsTwin base w A ps cap cells) (p2 : Ps w A1 n1 ps) (hok : ∀ p ∈ ps, okPiece p) (hlen : ∀ p ∈ ps, p.2.length ≤ 70368744177664) :
    Calls Tryz.prog 34 #[.slice A n1 cap, .slice A1 n1 c1] w fun e w' => e = .returned (.bool true) ∧ Below w.heap.size w w' := by
  have hbig := p2.big
  have hl := p2.len
  have hcap := h.capm
  rw [hl] at hcap
  obtain ⟨hc1, hc2⟩ := hcap
  obtain ⟨g, rfl, hgb, hg⟩ := h.at_
  have hrow : ∀ j u, (cells ++ [.int .u16 77, .slice none 0 0])[j]? = some u → w.cell? ⟨g, j, none⟩ = some u := fun j u hu => by
    have := h.row.cells (g := g) rfl j u hu
    rwa [show (⟨g, 0, none⟩ : Addr).add j = ⟨g, j, none⟩ by unfold Addr.add; split <;> simp_all] at this
  have hcl := h.len
  have hlast : w.rangeAt g (n1 * 2) [.int .u16 77, .slice none 0 0] := fun j u hu => by
    have hj : j < 2 := (List.getElem?_eq_some_iff.1 hu).1
    refine hrow _ u ?_
    rw [List.getElem?_append_right (by omega), hcl, hl, show n1 * 2 + j - n1 * 2 = j by omega]
    exact hu
  have hat : ∀ j u, cells[j]? = some u → w.cell? ⟨g, j, none⟩ = some u := fun j u hu => hrow j u (by rw [List.getElem?_append_left (List.getElem?_eq_some_iff.1 hu).1]; exact hu)
  have hsl : ∀ W : World, (Instr.slice 25 (.slice (some ⟨g, 0, none⟩) n1 cap) none (some (.int .i64 ((n1 : Int) + 1))) none).run Tryz.prog W = .ok (.slice (some ⟨g, 0, none⟩) (n1 + 1) cap) W := fun W => by
    have := slice_toP W (some ⟨g, 0, none⟩) n1 cap (n1 + 1) (by omega)
    rwa [show ((n1 + 1 : Nat) : Int) = (n1 : Int) + 1 by omega] at this
  have hw : IntKind.i64.wrap ((n1 : Int) + 1) = (n1 : Int) + 1 := IntWalk.i64_in _ (by omega)
  have hu : Tryz.prog.underlying 82 = some (.struct _) := Tryz.underlying82
  have hs5 : (Tryz.prog.info? 82).map (·.size) = some ([.int .u16 77, .slice none 0 0] : List Value).length := by kernel_rfl
  have HH := Lib.hid h
  have HP2 := Lib.hid p2
  have HOK := Lib.hid hok
  have HLEN := Lib.hid hlen
  have HAT := Lib.hid hat
  have HLAST := Lib.hid hlast
  have HSL := Lib.hid hsl
  have HG := Lib.hid hg
  have HU := Lib.hid hu
  have HS5 := Lib.hid hs5
  have HL := Lib.hid hl
  unfold maxLen at hc2
  have hdc : decide (cap ≤ n1) = false := decide_eq_false (by omega)
  clear h p2 hok hlen hat hlast hsl hg hrow hcl hu hs5 hl
  go_enter Tryz.func34, Tryz.ntmps34
  go_wp2_with fail
  go_loopw [5] (fun i wr => ∃ k : Nat, k ≤ n1 ∧ i = .int .i64 k ∧ Below w.heap.size w wr) (fun i _ => n1 - (intOf i).toNat)
  case atStart => exact ⟨0, Nat.zero_le _, rfl, Below.refl _ _⟩
  case round =>
    obtain ⟨k, hk, rfl, hB⟩ := hrel
    by_cases hlt : k < n1
    · obtain ⟨b2, o2, rfl, hb2, hc3⟩ := (HP2.out.below hB).row (by omega)
      obtain ⟨t, body, B2, m2, d2, g1, g2, g3, g4, g5, g6, g7⟩ := hc3 k hlt
      obtain rfl : body.length = m2 := g5.len
      have hm := List.mem_of_getElem? g1
      obtain ⟨B1, d1, h1, h2, h3⟩ := HH.out.body k t body g1
      have k1 : wr.cell? ⟨g, k * 2, none⟩ = some (.int .u16 t) := (hB.cell (p := ⟨g, k * 2, none⟩) HG.out).trans (HAT.out _ _ h1)
      have k2 : wr.cell? ⟨g, k * 2 + 1, none⟩ = some (.slice B1 body.length d1) := (hB.cell (p := ⟨g, k * 2 + 1, none⟩) HG.out).trans (HAT.out _ _ h2)
      have hgr : g < wr.heap.size := Nat.lt_of_lt_of_le HG.out hB.size
      have i0 : (0 : Int) ≤ (k : Int) := by omega
      have i1 : (k : Int) < (n1 : Int) := by omega
      have hs := leftp_any base t B1 B2 d1 d2 body wr.drew ((h3.below hB).below (drew_belowB wr)) (HOK.out _ hm).2.2 (HLEN.out _ hm) (g5.below (drew_belowB wr))
      have HS := Lib.hid hs
      have HB := Lib.hid hB
      clear hc3 h1 h2 h3 g1 g2 g5 g6 g7 hs hB hm hw
      go_wp2_with fail
      refine wp_region_noPanic ?_
      refine wp_region_held_drew (S := (fun w' => w'.cell? ⟨g, k * 2, none⟩ = some (.int .u16 t) ∧ w'.cell? ⟨g, k * 2 + 1, none⟩ = some (.slice B1 body.length d1) ∧ w'.cell? ⟨b2, o2 + k * 2, none⟩ = some (.int .u16 t) ∧ w'.cell? ⟨b2, o2 + k * 2 + 1, none⟩ = some (.slice B2 body.length d2))) (by kernel_rfl) ?_ (fun hHeld => ?_)
      · ((try dsimp only); refine ⟨?_, ?_, ?_, ?_⟩ <;> (first | assumption | (go_keep; done)))
      refine wpAnyH_take (i := 0) (oi := ⟨some 25, _, _, _, _, _⟩) (v := ?_) rfl (by kernel_rfl) (by kernel_rfl) (by kernel_rfl) (fun _ _ _ h => False.elim h) (Or.inl ⟨by rfl, ?_⟩) (by assumption) ?_
      rotate_left
      · intro w hSw
        (try dsimp only at hSw)
        go_simp
        all_goals with_reducible rfl
      (try simp only [Act.put, List.setIfInBounds_toArray, List.set_cons_zero, List.set_cons_succ])
      refine wpAnyH_take (i := 1) (oi := ⟨some 26, _, _, _, _, _⟩) (v := ?_) rfl (by kernel_rfl) (by kernel_rfl) (by kernel_rfl) (fun _ _ _ h => False.elim h) (Or.inl ⟨by rfl, ?_⟩) (by assumption) ?_
      rotate_left
      · intro w hSw
        (try dsimp only at hSw)
        go_simp
        all_goals with_reducible rfl
      (try simp only [Act.put, List.setIfInBounds_toArray, List.set_cons_zero, List.set_cons_succ])
      refine wpAnyH_take (i := 2) (oi := ⟨some 27, _, _, _, _, _⟩) (v := ?_) rfl (by kernel_rfl) (by kernel_rfl) (by kernel_rfl) (fun _ _ _ h => False.elim h) (Or.inl ⟨by rfl, ?_⟩) (by assumption) ?_
      rotate_left
      · intro w hSw
        (try dsimp only at hSw)
        go_simp
        all_goals with_reducible rfl
      (try simp only [Act.put, List.setIfInBounds_toArray, List.set_cons_zero, List.set_cons_succ])
      refine wpAnyH_take (i := 3) (oi := ⟨some 28, _, _, _, _, _⟩) (v := ?_) rfl (by kernel_rfl) (by kernel_rfl) (by kernel_rfl) (fun _ _ _ h => False.elim h) (Or.inl ⟨by rfl, ?_⟩) (by assumption) ?_
      rotate_left
      · intro w hSw
        (try dsimp only at hSw)
        go_simp
        all_goals with_reducible rfl
      (try simp only [Act.put, List.setIfInBounds_toArray, List.set_cons_zero, List.set_cons_succ])
      refine wpAnyH_take (i := 4) (oi := ⟨some 29, _, _, _, _, _⟩) (v := ?_) rfl (by kernel_rfl) (by kernel_rfl) (by kernel_rfl) (fun _ _ _ h => False.elim h) (Or.inl ⟨by rfl, ?_⟩) (by assumption) ?_
      rotate_left
      · intro w hSw
        (try dsimp only at hSw)
        go_simp
        all_goals with_reducible rfl
      (try simp only [Act.put, List.setIfInBounds_toArray, List.set_cons_zero, List.set_cons_succ])
      refine wpAnyH_take (i := 5) (oi := ⟨some 30, _, _, _, _, _⟩) (v := ?_) rfl (by kernel_rfl) (by kernel_rfl) (by kernel_rfl) (fun _ _ _ h => False.elim h) (Or.inl ⟨by rfl, ?_⟩) (by assumption) ?_
      rotate_left
      · intro w hSw
        (try dsimp only at hSw)
        go_simp
        all_goals with_reducible rfl
      (try simp only [Act.put, List.setIfInBounds_toArray, List.set_cons_zero, List.set_cons_succ])
      refine wpAnyH_take (i := 6) (oi := ⟨some 31, _, _, _, _, _⟩) (v := ?_) rfl (by kernel_rfl) (by kernel_rfl) (by kernel_rfl) (fun _ _ _ h => False.elim h) (Or.inl ⟨by rfl, ?_⟩) (by assumption) ?_
      rotate_left
      · intro w hSw
        (try dsimp only at hSw)
        go_simp
        all_goals with_reducible rfl
      (try simp only [Act.put, List.setIfInBounds_toArray, List.set_cons_zero, List.set_cons_succ])
      refine wpAnyH_take (i := 7) (oi := ⟨some 32, _, _, _, _, _⟩) (v := ?_) rfl (by kernel_rfl) (by kernel_rfl) (by kernel_rfl) (fun _ _ _ h => False.elim h) (Or.inl ⟨by rfl, ?_⟩) (by assumption) ?_
      rotate_left
      · intro w hSw
        (try dsimp only at hSw)
        go_simp
        all_goals with_reducible rfl
      (try simp only [Act.put, List.setIfInBounds_toArray, List.set_cons_zero, List.set_cons_succ])
      refine wpAnyH_ready (rs := [8]) (by kernel_rfl) (by simp) ?_
      refine AllReadyH.cons (o := ⟨some 33, _, _, _, _, _⟩) rfl (fun K hK => ?_) AllReadyH.nil
      go_simp
      (refine HS.out.mono ?_; rintro e w3 ⟨rfl, hB3⟩; have p1 := (hB3.cell (p := ⟨g, k * 2, none⟩) hgr).trans k1; have p2 := (hB3.cell (p := ⟨g, k * 2 + 1, none⟩) hgr).trans k2; have p3 := (hB3.cell (p := ⟨b2, o2 + k * 2, none⟩) hb2).trans g3; have p4 := (hB3.cell (p := ⟨b2, o2 + k * 2 + 1, none⟩) hb2).trans g4; have HB3 := Lib.hid hB3; clear hB3)
      (try go_wp2_with fail)
      refine hK.out _ _ ?_ (fun hHeld => ?_)
      · ((try dsimp only); refine ⟨?_, ?_, ?_, ?_⟩ <;> (first | assumption | (go_keep; done)))
      clear hK K
      (try simp only [Act.put, List.setIfInBounds_toArray, List.set_cons_zero, List.set_cons_succ])
      refine wpAnyH_take (i := 9) (oi := ⟨some 34, _, _, _, _, _⟩) (v := ?_) rfl (by kernel_rfl) (by kernel_rfl) (by kernel_rfl) (fun _ _ _ h => False.elim h) (Or.inl ⟨by rfl, ?_⟩) (by assumption) ?_
      rotate_left
      · intro w hSw
        (try dsimp only at hSw)
        go_simp
        all_goals with_reducible rfl
      (try simp only [Act.put, List.setIfInBounds_toArray, List.set_cons_zero, List.set_cons_succ])
      refine wpAnyH_done (by kernel_rfl) ?_ _
      refine NoPanic.normal ?_
      have HB4 := Lib.hid (HB.out.trans (((drew_belowB wr).trans HB3.out).mono HB.out.size))
      go_wp2_with fail
      go_roundw
      case rel => exact ⟨k + 1, by omega, by go_num, HB4.out⟩
      case measure => simp [intOf]; omega
    · obtain rfl : k = n1 := by omega
      have hsl := HSL.out
      have i0 : (0 : Int) ≤ (k : Int) := by omega
      have hr : wr.rangeAt g (k * 2) [.int .u16 77, .slice none 0 0] := fun j u hu => (hB.cell (p := ⟨g, k * 2 + j, none⟩) HG.out).trans (HLAST.out j u hu)
      have HR := Lib.hid hr
      have HB := Lib.hid hB
      clear hr hB
      go_wp2_with (refine wpList_load_mid rfl 82 _ rfl g (k * 2) rfl [.int .u16 77, .slice none 0 0] _ HR.out HU.out rfl HS5.out ?_)
      go_ret
      exact ⟨rfl, HB.out.alloc HB.out.size _⟩
end Go.Proofs.YtjikjdignhdipaaGreatDoor
