/- What holds of a Book's lists in the course of Apart. Printed by mkbk.py. -/
import Derived.Test.YtlcnjdpfijgcdaaGreatDoorBkNote
namespace Go.Proofs.YtlcnjdpfijgcdaaGreatDoor
open Go.RowKit
set_option linter.unusedSimpArgs false
set_option linter.unusedVariables false

/-- 0: the lists are there; 1: they are all marks; 2: more was put behind them. -/
structure KHolds (K : Kd) (base : Nat) (w : World) (H H' : Nat → List Hb) (p : Nat) : Prop where
  raw : p = 0 → ∀ (i : Nat) (h : Hb), (H K.i)[i]? = some h → ∃ cs, RowIs K base w h cs
  marked : p = 1 → ∀ (i : Nat) (h : Hb), (H K.i)[i]? = some h → RowIs K base w h (marksG K h.n h.len)
  same : p < 2 → H' K.i = H K.i
  grown : p = 2 → (H' K.i).length = (H K.i).length ∧ ∀ (i : Nat) (h : Hb), (H K.i)[i]? = some h → ∃ h', (H' K.i)[i]? = some h' ∧ ∃ w0, Grown K base w0 w h h'
  at0 : ∀ (i : Nat) (h : Hb), (H K.i)[i]? = some h → 0 < h.len → ∃ g, h.A = some ⟨g, 0, none⟩
  fine : Fine (H K.i)
theorem at0_of {K : Kd} {base : Nat} {w : World} {h : Hb} {cs : List Value} (hr : RowIs K base w h cs) (h0 : 0 < h.len) : ∃ g, h.A = some ⟨g, 0, none⟩ := by
  obtain ⟨g, c, e, _⟩ := RowG.at_ hr h0
  have e' : Value.slice h.A h.len h.cap = .slice (some ⟨g, 0, none⟩) h.len c := e
  injection e' with e' _ _
  exact ⟨g, e'⟩
section
variable {K K2 : Kd} {base : Nat} {w w' : World} {H H' H2 : Nat → List Hb} {p : Nat} {M : Nat → Prop}
theorem KHolds.start (hr : ∀ (i : Nat) (h : Hb), (H K.i)[i]? = some h → ∃ cs, RowIs K base w h cs) (hf : Fine (H K.i)) : KHolds K base w H H 0 :=
  ⟨fun _ => hr, fun h => by omega, fun _ => rfl, fun h => by omega, fun i h hi h0 => by
    obtain ⟨cs, hc⟩ := hr i h hi
    exact at0_of hc h0, hf⟩
theorem KHolds.far (h : KHolds K base w H H' p) (hk : Keeps M w w') (hM : ∀ i, M i → ByTy base K2.E w i ∨ ByTy base K2.H w i) (h1 : K.E ≠ K2.E) (h2 : K.E ≠ K2.H) (he : H2 K.i = H' K.i) : KHolds K base w' H H2 p := by
  have far : ∀ {k : Nat} {cur : Array Value}, k < w.heap.size → w.heap[k]? = some (.cells cur K.E (0, 0)) → ¬ M k := fun {k} {cur} hlt hc hm => by
    rcases hM k hm with (⟨_, cur2, hc2⟩ | h3) | (⟨_, cur2, hc2⟩ | h3)
    · exact h1 (ty_one hc hc2)
    · omega
    · exact h2 (ty_one hc hc2)
    · omega
  have rows : ∀ {h : Hb} {cs : List Value}, RowIs K base w h cs → RowIs K base w' h cs := fun hr => RowG.keep hr hk (fun k hk2 => by
    obtain ⟨_, h3, cur, hc⟩ := RowG.ty hr hk2
    exact far h3 hc)
  refine ⟨fun hp i x hx => ?_, fun hp i x hx => rows (h.marked hp i x hx), fun hp => he.trans (h.same hp), fun hp => ?_, h.at0, h.fine⟩
  · obtain ⟨cs, hc⟩ := h.raw hp i x hx
    exact ⟨cs, rows hc⟩
  · rw [he]
    refine ⟨(h.grown hp).1, fun i x hx => ?_⟩
    obtain ⟨x', e, w0, g⟩ := (h.grown hp).2 i x hx
    refine ⟨x', e, w0, g.keep hk (fun k hk2 => ?_) (fun k hk2 => ?_)⟩
    · obtain ⟨h3, ⟨cur, hc⟩, _⟩ := g.low k hk2
      exact far h3 hc
    · obtain ⟨_, h3, cur, hc⟩ := g.row.ty hk2
      exact far h3 hc
theorem KHolds.below (h : KHolds K base w H H' p) (hB : Below w.heap.size w w') : KHolds K base w' H H' p := by
  refine ⟨fun hp i x hx => ?_, fun hp i x hx => RowG.below (h.marked hp i x hx) hB, h.same, fun hp => ⟨(h.grown hp).1, fun i x hx => ?_⟩, h.at0, h.fine⟩
  · obtain ⟨cs, hc⟩ := h.raw hp i x hx
    exact ⟨cs, RowG.below hc hB⟩
  · obtain ⟨x', e, w0, g⟩ := (h.grown hp).2 i x hx
    exact ⟨x', e, w0, g.below hB⟩
theorem KHolds.filled (h : KHolds K base w H H' 0) (hr : ∀ (i : Nat) (h : Hb), (H K.i)[i]? = some h → RowIs K base w' h (marksG K h.n h.len)) : KHolds K base w' H H' 1 :=
  ⟨fun hp => by omega, fun _ => hr, fun _ => h.same (by omega), fun hp => by omega, h.at0, h.fine⟩
theorem KHolds.more (h : KHolds K base w H H' 1) (hl : (H2 K.i).length = (H' K.i).length) (hg : ∀ (i : Nat) (h : Hb), (H' K.i)[i]? = some h → ∃ h', (H2 K.i)[i]? = some h' ∧ Grown K base w w' h h') : KHolds K base w' H H2 2 := by
  have e := h.same (by omega)
  rw [e] at hl hg
  refine ⟨fun hp => by omega, fun hp => by omega, fun hp => by omega, fun _ => ⟨hl, fun i x hx => ?_⟩, h.at0, h.fine⟩
  obtain ⟨x', e', g⟩ := hg i x hx
  exact ⟨x', e', w, g⟩
theorem KHolds.seen (h : KHolds K base w H H' 2) : ∀ (i : Nat) (h' : Hb), (H' K.i)[i]? = some h' → ∃ h, Seen K base w h h' := fun i h' hi => by
  obtain ⟨hl, hg⟩ := h.grown rfl
  have hlt : i < (H K.i).length := by rw [← hl]; exact (List.getElem?_eq_some_iff.1 hi).1
  have hx : (H K.i)[i]? = some (H K.i)[i] := List.getElem?_eq_getElem hlt
  obtain ⟨x', e, w0, g⟩ := hg i _ hx
  rw [hi] at e
  injection e with e
  subst e
  exact ⟨_, g.is, g.row, g.low, h.at0 i _ hx, h.fine.n i _ hx, h.fine.len i _ hx⟩
end
theorem BookAt.nils {base B m : Nat} {w : World} {H : Nat → List Hb} (hb : BookAt base w B m H) (hn : ∀ k, k ≠ 1 → k ≠ 7 → k ≠ 10 → H k = []) : w.cell? ⟨B, 2, none⟩ = some (.slice none 0 0) ∧ w.cell? ⟨B, 3, none⟩ = some (.slice none 0 0) ∧ w.cell? ⟨B, 4, none⟩ = some (.slice none 0 0) ∧ w.cell? ⟨B, 5, none⟩ = some (.slice none 0 0) ∧ w.cell? ⟨B, 6, none⟩ = some (.slice none 0 0) ∧ w.cell? ⟨B, 8, none⟩ = some (.slice none 0 0) ∧ w.cell? ⟨B, 9, none⟩ = some (.slice none 0 0) ∧ w.cell? ⟨B, 11, none⟩ = some (.slice none 0 0) ∧ w.cell? ⟨B, 12, none⟩ = some (.slice none 0 0) ∧ w.cell? ⟨B, 13, none⟩ = some (.slice none 0 0) ∧ w.cell? ⟨B, 14, none⟩ = some (.slice none 0 0) ∧ w.cell? ⟨B, 15, none⟩ = some (.slice none 0 0) :=
  ⟨hb.nil (by omega) (by omega) (hn 2 (by omega) (by omega) (by omega)), hb.nil (by omega) (by omega) (hn 3 (by omega) (by omega) (by omega)), hb.nil (by omega) (by omega) (hn 4 (by omega) (by omega) (by omega)), hb.nil (by omega) (by omega) (hn 5 (by omega) (by omega) (by omega)), hb.nil (by omega) (by omega) (hn 6 (by omega) (by omega) (by omega)), hb.nil (by omega) (by omega) (hn 8 (by omega) (by omega) (by omega)), hb.nil (by omega) (by omega) (hn 9 (by omega) (by omega) (by omega)), hb.nil (by omega) (by omega) (hn 11 (by omega) (by omega) (by omega)), hb.nil (by omega) (by omega) (hn 12 (by omega) (by omega) (by omega)), hb.nil (by omega) (by omega) (hn 13 (by omega) (by omega) (by omega)), hb.nil (by omega) (by omega) (hn 14 (by omega) (by omega) (by omega)), hb.nil (by omega) (by omega) (hn 15 (by omega) (by omega) (by omega))⟩
end Go.Proofs.YtlcnjdpfijgcdaaGreatDoor
