/- What holds of a Book's lists in the course of Apart. Printed by mkbk.py; A Book that holds none of a kind: nothing is filled, nothing grows, all is well. Printed by mkbk.py. -/
import Derived.Test.YtgecfcdafbedaaaGreatDoorZRSpotsPlayUpto32
import Derived.Test.YtgecfcdafbedaaaGreatDoorZRSpotsPlayUpto30
import Derived.Handy
namespace Go.Proofs.YtgecfcdafbedaaaGreatDoor
open Go.RowKit
set_option linter.unusedSimpArgs false
set_option linter.unusedVariables false

/-- 0: the lists are there; 1: they are all marks; 2: more was put behind them. -/
structure KHolds (K : Kd) (base : Nat) (w : World) (H H' : Nat → List Hb) (p : Nat) : Prop where
  raw : p = 0 → ∀ (i : Nat) (h : Hb), (H K.i)[i]? = some h → ∃ cs, RowIs K base w h cs
  marked : p = 1 → ∀ (i : Nat) (h : Hb), (H K.i)[i]? = some h → RowIs K base w h (marksG K h.n h.len)
  same : p < 2 → H' K.i = H K.i
  grown : p = 2 → (H' K.i).length = (H K.i).length ∧ ∀ (i : Nat) (h : Hb), (H K.i)[i]? = some h → ∃ h', (H' K.i)[i]? = some h' ∧ ∃ w0, Grown K base w0 w h h'
  at0 : ∀ (i : Nat) (h : Hb), (H K.i)[i]? = some h → 0 < h.len → ∃ g, h.A = some ⟨g, 0, none⟩
  fine : Fine (H K.i)
theorem at0_of {K : Kd} {base : Nat} {w : World} {h : Hb} {cs : List Value} (hr : RowIs K base w h cs) (h0 : 0 < h.len) : ∃ g, h.A = some ⟨g, 0, none⟩ := by
  obtain ⟨g, c, e, _⟩ := RowG.at_ hr h0
  have e' : Value.slice h.A h.len h.cap = .slice (some ⟨g, 0, none⟩) h.len c := e
  injection e' with e' _ _
  exact ⟨g, e'⟩
section
variable {K K2 : Kd} {base : Nat} {w w' : World} {H H' H2 : Nat → List Hb} {p : Nat} {M : Nat → Prop}
theorem KHolds.start (hr : ∀ (i : Nat) (h : Hb), (H K.i)[i]? = some h → ∃ cs, RowIs K base w h cs) (hf : Fine (H K.i)) : KHolds K base w H H 0 :=
  ⟨fun _ => hr, fun h => by omega, fun _ => rfl, fun h => by omega, fun i h hi h0 => by
    obtain ⟨cs, hc⟩ := hr i h hi
    exact at0_of hc h0, hf⟩
theorem KHolds.far (h : KHolds K base w H H' p) (hk : Keeps M w w') (hM : ∀ i, M i → ByTy base K2.E w i ∨ ByTy base K2.H w i) (h1 : K.E ≠ K2.E) (h2 : K.E ≠ K2.H) (he : H2 K.i = H' K.i) : KHolds K base w' H H2 p := by
  have far : ∀ {k : Nat} {cur : Array Value}, k < w.heap.size → w.heap[k]? = some (.cells cur K.E (0, 0)) → ¬ M k := fun {k} {cur} hlt hc hm => by
    rcases hM k hm with (⟨_, cur2, hc2⟩ | h3) | (⟨_, cur2, hc2⟩ | h3)
    · exact h1 (ty_one hc hc2)
    · omega
    · exact h2 (ty_one hc hc2)
    · omega
  have rows : ∀ {h : Hb} {cs : List Value}, RowIs K base w h cs → RowIs K base w' h cs := fun hr => RowG.keep hr hk (fun k hk2 => by
    obtain ⟨_, h3, cur, hc⟩ := RowG.ty hr hk2
    exact far h3 hc)
  refine ⟨fun hp i x hx => ?_, fun hp i x hx => rows (h.marked hp i x hx), fun hp => he.trans (h.same hp), fun hp => ?_, h.at0, h.fine⟩
  · obtain ⟨cs, hc⟩ := h.raw hp i x hx
    exact ⟨cs, rows hc⟩
  · rw [he]
    refine ⟨(h.grown hp).1, fun i x hx => ?_⟩
    obtain ⟨x', e, w0, g⟩ := (h.grown hp).2 i x hx
    refine ⟨x', e, w0, g.keep hk (fun k hk2 => ?_) (fun k hk2 => ?_)⟩
    · obtain ⟨h3, ⟨cur, hc⟩, _⟩ := g.low k hk2
      exact far h3 hc
    · obtain ⟨_, h3, cur, hc⟩ := g.row.ty hk2
      exact far h3 hc
theorem KHolds.below (h : KHolds K base w H H' p) (hB : Below w.heap.size w w') : KHolds K base w' H H' p := by
  refine ⟨fun hp i x hx => ?_, fun hp i x hx => RowG.below (h.marked hp i x hx) hB, h.same, fun hp => ⟨(h.grown hp).1, fun i x hx => ?_⟩, h.at0, h.fine⟩
  · obtain ⟨cs, hc⟩ := h.raw hp i x hx
    exact ⟨cs, RowG.below hc hB⟩
  · obtain ⟨x', e, w0, g⟩ := (h.grown hp).2 i x hx
    exact ⟨x', e, w0, g.below hB⟩
theorem KHolds.filled (h : KHolds K base w H H' 0) (hr : ∀ (i : Nat) (h : Hb), (H K.i)[i]? = some h → RowIs K base w' h (marksG K h.n h.len)) : KHolds K base w' H H' 1 :=
  ⟨fun hp => by omega, fun _ => hr, fun _ => h.same (by omega), fun hp => by omega, h.at0, h.fine⟩
theorem KHolds.more (h : KHolds K base w H H' 1) (hl : (H2 K.i).length = (H' K.i).length) (hg : ∀ (i : Nat) (h : Hb), (H' K.i)[i]? = some h → ∃ h', (H2 K.i)[i]? = some h' ∧ Grown K base w w' h h') : KHolds K base w' H H2 2 := by
  have e := h.same (by omega)
  rw [e] at hl hg
  refine ⟨fun hp => by omega, fun hp => by omega, fun hp => by omega, fun _ => ⟨hl, fun i x hx => ?_⟩, h.at0, h.fine⟩
  obtain ⟨x', e', g⟩ := hg i x hx
  exact ⟨x', e', w, g⟩
theorem KHolds.seen (h : KHolds K base w H H' 2) : ∀ (i : Nat) (h' : Hb), (H' K.i)[i]? = some h' → ∃ h, Seen K base w h h' := fun i h' hi => by
  obtain ⟨hl, hg⟩ := h.grown rfl
  have hlt : i < (H K.i).length := by rw [← hl]; exact (List.getElem?_eq_some_iff.1 hi).1
  have hx : (H K.i)[i]? = some (H K.i)[i] := List.getElem?_eq_getElem hlt
  obtain ⟨x', e, w0, g⟩ := hg i _ hx
  rw [hi] at e
  injection e with e
  subst e
  exact ⟨_, g.is, g.row, g.low, h.at0 i _ hx, h.fine.n i _ hx, h.fine.len i _ hx⟩
end
theorem BookAt.nils {base B m : Nat} {w : World} {H : Nat → List Hb} (hb : BookAt base w B m H) (hn : ∀ k, k ≠ 1 → k ≠ 7 → k ≠ 10 → H k = []) : w.cell? ⟨B, 2, none⟩ = some (.slice none 0 0) ∧ w.cell? ⟨B, 3, none⟩ = some (.slice none 0 0) ∧ w.cell? ⟨B, 4, none⟩ = some (.slice none 0 0) ∧ w.cell? ⟨B, 5, none⟩ = some (.slice none 0 0) ∧ w.cell? ⟨B, 6, none⟩ = some (.slice none 0 0) ∧ w.cell? ⟨B, 8, none⟩ = some (.slice none 0 0) ∧ w.cell? ⟨B, 9, none⟩ = some (.slice none 0 0) ∧ w.cell? ⟨B, 11, none⟩ = some (.slice none 0 0) ∧ w.cell? ⟨B, 12, none⟩ = some (.slice none 0 0) ∧ w.cell? ⟨B, 13, none⟩ = some (.slice none 0 0) ∧ w.cell? ⟨B, 14, none⟩ = some (.slice none 0 0) ∧ w.cell? ⟨B, 15, none⟩ = some (.slice none 0 0) :=
  ⟨hb.nil (by omega) (by omega) (hn 2 (by omega) (by omega) (by omega)), hb.nil (by omega) (by omega) (hn 3 (by omega) (by omega) (by omega)), hb.nil (by omega) (by omega) (hn 4 (by omega) (by omega) (by omega)), hb.nil (by omega) (by omega) (hn 5 (by omega) (by omega) (by omega)), hb.nil (by omega) (by omega) (hn 6 (by omega) (by omega) (by omega)), hb.nil (by omega) (by omega) (hn 8 (by omega) (by omega) (by omega)), hb.nil (by omega) (by omega) (hn 9 (by omega) (by omega) (by omega)), hb.nil (by omega) (by omega) (hn 11 (by omega) (by omega) (by omega)), hb.nil (by omega) (by omega) (hn 12 (by omega) (by omega) (by omega)), hb.nil (by omega) (by omega) (hn 13 (by omega) (by omega) (by omega)), hb.nil (by omega) (by omega) (hn 14 (by omega) (by omega) (by omega)), hb.nil (by omega) (by omega) (hn 15 (by omega) (by omega) (by omega))⟩
end Go.Proofs.YtgecfcdafbedaaaGreatDoor

namespace Go.Proofs.YtgecfcdafbedaaaGreatDoor
open Go.RowKit
set_option linter.unusedSimpArgs false
set_option linter.unusedVariables false

theorem fillInt_none (B : Nat) (w : World) (h : w.cell? ⟨B, 2, none⟩ = some (.slice none 0 0)) : Calls Tryz.prog 38 #[.pointer (some ⟨B, 0, none⟩)] w fun e w' => e = .returned (.tuple #[]) ∧ w = w' := by
  go_enter Tryz.func38, Tryz.ntmps38
  go_wp2_with fail
  refine wp_loop_rounds 1 ?_
  rw [rounds_succ]
  go_wp2_with fail
  go_end0
  exact ⟨rfl, rfl⟩
theorem growInt_none (B : Nat) (w : World) (h : w.cell? ⟨B, 2, none⟩ = some (.slice none 0 0)) : Calls Tryz.prog 53 #[.pointer (some ⟨B, 0, none⟩)] w fun e w' => e = .returned (.tuple #[]) ∧ w = w' := by
  go_enter Tryz.func53, Tryz.ntmps53
  go_wp2_with fail
  refine wp_loop_rounds 1 ?_
  rw [rounds_succ]
  go_wp2_with fail
  go_end0
  exact ⟨rfl, rfl⟩
theorem lookInt_none (B : Nat) (w : World) (h : w.cell? ⟨B, 2, none⟩ = some (.slice none 0 0)) : Calls Tryz.prog 68 #[.pointer (some ⟨B, 0, none⟩)] w fun e w' => e = .returned (.bool true) ∧ w = w' := by
  go_enter Tryz.func68, Tryz.ntmps68
  go_wp2_with fail
  refine wp_loop_rounds 1 ?_
  rw [rounds_succ]
  go_wp2_with fail
  go_ret
  exact ⟨rfl, rfl⟩
theorem fillText_none (B : Nat) (w : World) (h : w.cell? ⟨B, 3, none⟩ = some (.slice none 0 0)) : Calls Tryz.prog 39 #[.pointer (some ⟨B, 0, none⟩)] w fun e w' => e = .returned (.tuple #[]) ∧ w = w' := by
  go_enter Tryz.func39, Tryz.ntmps39
  go_wp2_with fail
  refine wp_loop_rounds 1 ?_
  rw [rounds_succ]
  go_wp2_with fail
  go_end0
  exact ⟨rfl, rfl⟩
theorem growText_none (B : Nat) (w : World) (h : w.cell? ⟨B, 3, none⟩ = some (.slice none 0 0)) : Calls Tryz.prog 54 #[.pointer (some ⟨B, 0, none⟩)] w fun e w' => e = .returned (.tuple #[]) ∧ w = w' := by
  go_enter Tryz.func54, Tryz.ntmps54
  go_wp2_with fail
  refine wp_loop_rounds 1 ?_
  rw [rounds_succ]
  go_wp2_with fail
  go_end0
  exact ⟨rfl, rfl⟩
theorem lookText_none (B : Nat) (w : World) (h : w.cell? ⟨B, 3, none⟩ = some (.slice none 0 0)) : Calls Tryz.prog 69 #[.pointer (some ⟨B, 0, none⟩)] w fun e w' => e = .returned (.bool true) ∧ w = w' := by
  go_enter Tryz.func69, Tryz.ntmps69
  go_wp2_with fail
  refine wp_loop_rounds 1 ?_
  rw [rounds_succ]
  go_wp2_with fail
  go_ret
  exact ⟨rfl, rfl⟩
theorem fillNum_none (B : Nat) (w : World) (h : w.cell? ⟨B, 4, none⟩ = some (.slice none 0 0)) : Calls Tryz.prog 40 #[.pointer (some ⟨B, 0, none⟩)] w fun e w' => e = .returned (.tuple #[]) ∧ w = w' := by
  go_enter Tryz.func40, Tryz.ntmps40
  go_wp2_with fail
  refine wp_loop_rounds 1 ?_
  rw [rounds_succ]
  go_wp2_with fail
  go_end0
  exact ⟨rfl, rfl⟩
theorem growNum_none (B : Nat) (w : World) (h : w.cell? ⟨B, 4, none⟩ = some (.slice none 0 0)) : Calls Tryz.prog 55 #[.pointer (some ⟨B, 0, none⟩)] w fun e w' => e = .returned (.tuple #[]) ∧ w = w' := by
  go_enter Tryz.func55, Tryz.ntmps55
  go_wp2_with fail
  refine wp_loop_rounds 1 ?_
  rw [rounds_succ]
  go_wp2_with fail
  go_end0
  exact ⟨rfl, rfl⟩
theorem lookNum_none (B : Nat) (w : World) (h : w.cell? ⟨B, 4, none⟩ = some (.slice none 0 0)) : Calls Tryz.prog 70 #[.pointer (some ⟨B, 0, none⟩)] w fun e w' => e = .returned (.bool true) ∧ w = w' := by
  go_enter Tryz.func70, Tryz.ntmps70
  go_wp2_with fail
  refine wp_loop_rounds 1 ?_
  rw [rounds_succ]
  go_wp2_with fail
  go_ret
  exact ⟨rfl, rfl⟩
theorem fillSum_none (B : Nat) (w : World) (h : w.cell? ⟨B, 5, none⟩ = some (.slice none 0 0)) : Calls Tryz.prog 41 #[.pointer (some ⟨B, 0, none⟩)] w fun e w' => e = .returned (.tuple #[]) ∧ w = w' := by
  go_enter Tryz.func41, Tryz.ntmps41
  go_wp2_with fail
  refine wp_loop_rounds 1 ?_
  rw [rounds_succ]
  go_wp2_with fail
  go_end0
  exact ⟨rfl, rfl⟩
theorem growSum_none (B : Nat) (w : World) (h : w.cell? ⟨B, 5, none⟩ = some (.slice none 0 0)) : Calls Tryz.prog 56 #[.pointer (some ⟨B, 0, none⟩)] w fun e w' => e = .returned (.tuple #[]) ∧ w = w' := by
  go_enter Tryz.func56, Tryz.ntmps56
  go_wp2_with fail
  refine wp_loop_rounds 1 ?_
  rw [rounds_succ]
  go_wp2_with fail
  go_end0
  exact ⟨rfl, rfl⟩
theorem lookSum_none (B : Nat) (w : World) (h : w.cell? ⟨B, 5, none⟩ = some (.slice none 0 0)) : Calls Tryz.prog 71 #[.pointer (some ⟨B, 0, none⟩)] w fun e w' => e = .returned (.bool true) ∧ w = w' := by
  go_enter Tryz.func71, Tryz.ntmps71
  go_wp2_with fail
  refine wp_loop_rounds 1 ?_
  rw [rounds_succ]
  go_wp2_with fail
  go_ret
  exact ⟨rfl, rfl⟩
theorem fillTag_none (B : Nat) (w : World) (h : w.cell? ⟨B, 6, none⟩ = some (.slice none 0 0)) : Calls Tryz.prog 42 #[.pointer (some ⟨B, 0, none⟩)] w fun e w' => e = .returned (.tuple #[]) ∧ w = w' := by
  go_enter Tryz.func42, Tryz.ntmps42
  go_wp2_with fail
  refine wp_loop_rounds 1 ?_
  rw [rounds_succ]
  go_wp2_with fail
  go_end0
  exact ⟨rfl, rfl⟩
theorem growTag_none (B : Nat) (w : World) (h : w.cell? ⟨B, 6, none⟩ = some (.slice none 0 0)) : Calls Tryz.prog 57 #[.pointer (some ⟨B, 0, none⟩)] w fun e w' => e = .returned (.tuple #[]) ∧ w = w' := by
  go_enter Tryz.func57, Tryz.ntmps57
  go_wp2_with fail
  refine wp_loop_rounds 1 ?_
  rw [rounds_succ]
  go_wp2_with fail
  go_end0
  exact ⟨rfl, rfl⟩
theorem lookTag_none (B : Nat) (w : World) (h : w.cell? ⟨B, 6, none⟩ = some (.slice none 0 0)) : Calls Tryz.prog 72 #[.pointer (some ⟨B, 0, none⟩)] w fun e w' => e = .returned (.bool true) ∧ w = w' := by
  go_enter Tryz.func72, Tryz.ntmps72
  go_wp2_with fail
  refine wp_loop_rounds 1 ?_
  rw [rounds_succ]
  go_wp2_with fail
  go_ret
  exact ⟨rfl, rfl⟩
theorem fillGen_none (B : Nat) (w : World) (h : w.cell? ⟨B, 8, none⟩ = some (.slice none 0 0)) : Calls Tryz.prog 44 #[.pointer (some ⟨B, 0, none⟩)] w fun e w' => e = .returned (.tuple #[]) ∧ w = w' := by
  go_enter Tryz.func44, Tryz.ntmps44
  go_wp2_with fail
  refine wp_loop_rounds 1 ?_
  rw [rounds_succ]
  go_wp2_with fail
  go_end0
  exact ⟨rfl, rfl⟩
theorem growGen_none (B : Nat) (w : World) (h : w.cell? ⟨B, 8, none⟩ = some (.slice none 0 0)) : Calls Tryz.prog 59 #[.pointer (some ⟨B, 0, none⟩)] w fun e w' => e = .returned (.tuple #[]) ∧ w = w' := by
  go_enter Tryz.func59, Tryz.ntmps59
  go_wp2_with fail
  refine wp_loop_rounds 1 ?_
  rw [rounds_succ]
  go_wp2_with fail
  go_end0
  exact ⟨rfl, rfl⟩
theorem lookGen_none (B : Nat) (w : World) (h : w.cell? ⟨B, 8, none⟩ = some (.slice none 0 0)) : Calls Tryz.prog 74 #[.pointer (some ⟨B, 0, none⟩)] w fun e w' => e = .returned (.bool true) ∧ w = w' := by
  go_enter Tryz.func74, Tryz.ntmps74
  go_wp2_with fail
  refine wp_loop_rounds 1 ?_
  rw [rounds_succ]
  go_wp2_with fail
  go_ret
  exact ⟨rfl, rfl⟩
theorem fillLane_none (B : Nat) (w : World) (h : w.cell? ⟨B, 9, none⟩ = some (.slice none 0 0)) : Calls Tryz.prog 45 #[.pointer (some ⟨B, 0, none⟩)] w fun e w' => e = .returned (.tuple #[]) ∧ w = w' := by
  go_enter Tryz.func45, Tryz.ntmps45
  go_wp2_with fail
  refine wp_loop_rounds 1 ?_
  rw [rounds_succ]
  go_wp2_with fail
  go_end0
  exact ⟨rfl, rfl⟩
theorem growLane_none (B : Nat) (w : World) (h : w.cell? ⟨B, 9, none⟩ = some (.slice none 0 0)) : Calls Tryz.prog 60 #[.pointer (some ⟨B, 0, none⟩)] w fun e w' => e = .returned (.tuple #[]) ∧ w = w' := by
  go_enter Tryz.func60, Tryz.ntmps60
  go_wp2_with fail
  refine wp_loop_rounds 1 ?_
  rw [rounds_succ]
  go_wp2_with fail
  go_end0
  exact ⟨rfl, rfl⟩
theorem lookLane_none (B : Nat) (w : World) (h : w.cell? ⟨B, 9, none⟩ = some (.slice none 0 0)) : Calls Tryz.prog 75 #[.pointer (some ⟨B, 0, none⟩)] w fun e w' => e = .returned (.bool true) ∧ w = w' := by
  go_enter Tryz.func75, Tryz.ntmps75
  go_wp2_with fail
  refine wp_loop_rounds 1 ?_
  rw [rounds_succ]
  go_wp2_with fail
  go_ret
  exact ⟨rfl, rfl⟩
theorem fillPacket_none (B : Nat) (w : World) (h : w.cell? ⟨B, 11, none⟩ = some (.slice none 0 0)) : Calls Tryz.prog 47 #[.pointer (some ⟨B, 0, none⟩)] w fun e w' => e = .returned (.tuple #[]) ∧ w = w' := by
  go_enter Tryz.func47, Tryz.ntmps47
  go_wp2_with fail
  refine wp_loop_rounds 1 ?_
  rw [rounds_succ]
  go_wp2_with fail
  go_end0
  exact ⟨rfl, rfl⟩
theorem growPacket_none (B : Nat) (w : World) (h : w.cell? ⟨B, 11, none⟩ = some (.slice none 0 0)) : Calls Tryz.prog 62 #[.pointer (some ⟨B, 0, none⟩)] w fun e w' => e = .returned (.tuple #[]) ∧ w = w' := by
  go_enter Tryz.func62, Tryz.ntmps62
  go_wp2_with fail
  refine wp_loop_rounds 1 ?_
  rw [rounds_succ]
  go_wp2_with fail
  go_end0
  exact ⟨rfl, rfl⟩
theorem lookPacket_none (B : Nat) (w : World) (h : w.cell? ⟨B, 11, none⟩ = some (.slice none 0 0)) : Calls Tryz.prog 77 #[.pointer (some ⟨B, 0, none⟩)] w fun e w' => e = .returned (.bool true) ∧ w = w' := by
  go_enter Tryz.func77, Tryz.ntmps77
  go_wp2_with fail
  refine wp_loop_rounds 1 ?_
  rw [rounds_succ]
  go_wp2_with fail
  go_ret
  exact ⟨rfl, rfl⟩
theorem fillFrame_none (B : Nat) (w : World) (h : w.cell? ⟨B, 12, none⟩ = some (.slice none 0 0)) : Calls Tryz.prog 48 #[.pointer (some ⟨B, 0, none⟩)] w fun e w' => e = .returned (.tuple #[]) ∧ w = w' := by
  go_enter Tryz.func48, Tryz.ntmps48
  go_wp2_with fail
  refine wp_loop_rounds 1 ?_
  rw [rounds_succ]
  go_wp2_with fail
  go_end0
  exact ⟨rfl, rfl⟩
theorem growFrame_none (B : Nat) (w : World) (h : w.cell? ⟨B, 12, none⟩ = some (.slice none 0 0)) : Calls Tryz.prog 63 #[.pointer (some ⟨B, 0, none⟩)] w fun e w' => e = .returned (.tuple #[]) ∧ w = w' := by
  go_enter Tryz.func63, Tryz.ntmps63
  go_wp2_with fail
  refine wp_loop_rounds 1 ?_
  rw [rounds_succ]
  go_wp2_with fail
  go_end0
  exact ⟨rfl, rfl⟩
theorem lookFrame_none (B : Nat) (w : World) (h : w.cell? ⟨B, 12, none⟩ = some (.slice none 0 0)) : Calls Tryz.prog 78 #[.pointer (some ⟨B, 0, none⟩)] w fun e w' => e = .returned (.bool true) ∧ w = w' := by
  go_enter Tryz.func78, Tryz.ntmps78
  go_wp2_with fail
  refine wp_loop_rounds 1 ?_
  rw [rounds_succ]
  go_wp2_with fail
  go_ret
  exact ⟨rfl, rfl⟩
theorem fillMail_none (B : Nat) (w : World) (h : w.cell? ⟨B, 13, none⟩ = some (.slice none 0 0)) : Calls Tryz.prog 49 #[.pointer (some ⟨B, 0, none⟩)] w fun e w' => e = .returned (.tuple #[]) ∧ w = w' := by
  go_enter Tryz.func49, Tryz.ntmps49
  go_wp2_with fail
  refine wp_loop_rounds 1 ?_
  rw [rounds_succ]
  go_wp2_with fail
  go_end0
  exact ⟨rfl, rfl⟩
theorem growMail_none (B : Nat) (w : World) (h : w.cell? ⟨B, 13, none⟩ = some (.slice none 0 0)) : Calls Tryz.prog 64 #[.pointer (some ⟨B, 0, none⟩)] w fun e w' => e = .returned (.tuple #[]) ∧ w = w' := by
  go_enter Tryz.func64, Tryz.ntmps64
  go_wp2_with fail
  refine wp_loop_rounds 1 ?_
  rw [rounds_succ]
  go_wp2_with fail
  go_end0
  exact ⟨rfl, rfl⟩
theorem lookMail_none (B : Nat) (w : World) (h : w.cell? ⟨B, 13, none⟩ = some (.slice none 0 0)) : Calls Tryz.prog 79 #[.pointer (some ⟨B, 0, none⟩)] w fun e w' => e = .returned (.bool true) ∧ w = w' := by
  go_enter Tryz.func79, Tryz.ntmps79
  go_wp2_with fail
  refine wp_loop_rounds 1 ?_
  rw [rounds_succ]
  go_wp2_with fail
  go_ret
  exact ⟨rfl, rfl⟩
theorem fillSession_none (B : Nat) (w : World) (h : w.cell? ⟨B, 14, none⟩ = some (.slice none 0 0)) : Calls Tryz.prog 50 #[.pointer (some ⟨B, 0, none⟩)] w fun e w' => e = .returned (.tuple #[]) ∧ w = w' := by
  go_enter Tryz.func50, Tryz.ntmps50
  go_wp2_with fail
  refine wp_loop_rounds 1 ?_
  rw [rounds_succ]
  go_wp2_with fail
  go_end0
  exact ⟨rfl, rfl⟩
theorem growSession_none (B : Nat) (w : World) (h : w.cell? ⟨B, 14, none⟩ = some (.slice none 0 0)) : Calls Tryz.prog 65 #[.pointer (some ⟨B, 0, none⟩)] w fun e w' => e = .returned (.tuple #[]) ∧ w = w' := by
  go_enter Tryz.func65, Tryz.ntmps65
  go_wp2_with fail
  refine wp_loop_rounds 1 ?_
  rw [rounds_succ]
  go_wp2_with fail
  go_end0
  exact ⟨rfl, rfl⟩
theorem lookSession_none (B : Nat) (w : World) (h : w.cell? ⟨B, 14, none⟩ = some (.slice none 0 0)) : Calls Tryz.prog 80 #[.pointer (some ⟨B, 0, none⟩)] w fun e w' => e = .returned (.bool true) ∧ w = w' := by
  go_enter Tryz.func80, Tryz.ntmps80
  go_wp2_with fail
  refine wp_loop_rounds 1 ?_
  rw [rounds_succ]
  go_wp2_with fail
  go_ret
  exact ⟨rfl, rfl⟩
theorem fillRecord_none (B : Nat) (w : World) (h : w.cell? ⟨B, 15, none⟩ = some (.slice none 0 0)) : Calls Tryz.prog 51 #[.pointer (some ⟨B, 0, none⟩)] w fun e w' => e = .returned (.tuple #[]) ∧ w = w' := by
  go_enter Tryz.func51, Tryz.ntmps51
  go_wp2_with fail
  refine wp_loop_rounds 1 ?_
  rw [rounds_succ]
  go_wp2_with fail
  go_end0
  exact ⟨rfl, rfl⟩
theorem growRecord_none (B : Nat) (w : World) (h : w.cell? ⟨B, 15, none⟩ = some (.slice none 0 0)) : Calls Tryz.prog 66 #[.pointer (some ⟨B, 0, none⟩)] w fun e w' => e = .returned (.tuple #[]) ∧ w = w' := by
  go_enter Tryz.func66, Tryz.ntmps66
  go_wp2_with fail
  refine wp_loop_rounds 1 ?_
  rw [rounds_succ]
  go_wp2_with fail
  go_end0
  exact ⟨rfl, rfl⟩
theorem lookRecord_none (B : Nat) (w : World) (h : w.cell? ⟨B, 15, none⟩ = some (.slice none 0 0)) : Calls Tryz.prog 81 #[.pointer (some ⟨B, 0, none⟩)] w fun e w' => e = .returned (.bool true) ∧ w = w' := by
  go_enter Tryz.func81, Tryz.ntmps81
  go_wp2_with fail
  refine wp_loop_rounds 1 ?_
  rw [rounds_succ]
  go_wp2_with fail
  go_ret
  exact ⟨rfl, rfl⟩
end Go.Proofs.YtgecfcdafbedaaaGreatDoor
