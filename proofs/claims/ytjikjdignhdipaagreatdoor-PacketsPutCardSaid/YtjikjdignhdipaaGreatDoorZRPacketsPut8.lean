/- Pieces of the call's own: their row, and each body's row, all in blocks of their own; The walk over TwinBytes: the same bytes in memory of the call's own, with a spare one behind them. -/
import Derived.Test.YtjikjdignhdipaaGreatDoorZRPacketsPut5
import Derived.Test.YtjikjdignhdipaaGreatDoorZRPacketsPut7
import Derived.Test.YtjikjdignhdipaaGreatDoorZRPacketsPut4
import Derived.Laws.MakeOwn
namespace Go.Proofs.YtjikjdignhdipaaGreatDoor
open Go.RowKit
set_option linter.unusedSimpArgs false
set_option linter.unusedVariables false

structure PsOwn (base : Nat) (w : World) (v : Value) (ps : List Piece) (cells : List Value) : Prop where
  row : RowG 82 2 base w v ps.length cells
  body : ∀ (j : Nat) (t : Int) (body : List Int), ps[j]? = some (t, body) → ∃ B c, cells[j * 2]? = some (.int .u16 t) ∧ cells[j * 2 + 1]? = some (.slice B body.length c) ∧ RowG 5 1 base w (.slice B body.length c) body.length (body.map (Value.int .u8))
  unlike : ∀ (i j g n c n' c' : Nat), i ≠ j → cells[i * 2 + 1]? = some (.slice (some ⟨g, 0, none⟩) n c) → cells[j * 2 + 1]? ≠ some (.slice (some ⟨g, 0, none⟩) n' c')
section
variable {base : Nat} {w w' : World} {v : Value} {ps : List Piece} {cells : List Value}
theorem PsOwn.keep {M : Nat → Prop} (h : PsOwn base w v ps cells) (hk : Keeps M w w') (hM : ∀ k cur, base ≤ k → (w.heap[k]? = some (.cells cur 5 (0, 0)) ∨ w.heap[k]? = some (.cells cur 82 (0, 0))) → ¬ M k) : PsOwn base w' v ps cells :=
  ⟨h.row.keep hk (fun k hk2 => by obtain ⟨h1, _, cur, h2⟩ := h.row.ty hk2; exact hM k cur h1 (.inr h2)), fun j t body hj => by
    obtain ⟨B, c, h1, h2, h3⟩ := h.body j t body hj
    exact ⟨B, c, h1, h2, h3.keep hk (fun k hk2 => by obtain ⟨h1, _, cur, h2⟩ := h3.ty hk2; exact hM k cur h1 (.inl h2))⟩, h.unlike⟩
theorem PsOwn.below (h : PsOwn base w v ps cells) (hB : Below w.heap.size w w') : PsOwn base w' v ps cells := h.keep (Keeps.of_below (M := fun _ => False) hB) (fun _ _ _ _ h => h)
theorem PsOwn.keepLow {M : Nat → Prop} (h : PsOwn base w v ps cells) (hk : Keeps M w w') (hM : ∀ i, M i → i < base) : PsOwn base w' v ps cells := h.keep hk (fun k _ hb _ hm => by have := hM k hm; omega)
theorem PsOwn.keepTy {M : Nat → Prop} {T : TypeId} {base' : Nat} (h : PsOwn base w v ps cells) (hk : Keeps M w w') (hM : ∀ i, M i → ByTy base' T w i) (h1 : 5 ≠ T) (h2 : 82 ≠ T) : PsOwn base w' v ps cells := h.keep hk (fun k cur _ ht hm => by
  rcases hM k hm with ⟨_, cur2, h3⟩ | h3
  · rcases ht with ht | ht
    · exact h1 (ty_one ht h3)
    · exact h2 (ty_one ht h3)
  · have : k < w.heap.size := by rcases ht with ht | ht <;> exact (Array.getElem?_eq_some_iff.1 ht).1
    omega)
theorem PsOwn.lower {base' : Nat} (h : PsOwn base w v ps cells) (hb : base' ≤ base) : PsOwn base' w v ps cells :=
  ⟨h.row.lower hb, fun j t body hj => by
    obtain ⟨B, c, h1, h2, h3⟩ := h.body j t body hj
    exact ⟨B, c, h1, h2, h3.lower hb⟩, h.unlike⟩
theorem RowG.none_cap {E : TypeId} {q base : Nat} {w : World} {n c : Nat} {cs : List Value} (h : RowG E q base w (.slice none n c) n cs) : n = 0 ∧ c = 0 := by
  obtain ⟨A, c1, c', e, h1, h2, h3⟩ := h
  injection e with e1 _ e2
  subst e1; subst e2
  rcases h3.2 with ⟨h4, h5⟩ | ⟨g, cap, cur, h4, _⟩
  · injection h4 with _ _ h4
    omega
  · injection h4 with h4 _ _
    cases h4
theorem RowG.rd {base : Nat} {w : World} {A : Option Addr} {n c : Nat} {xs : List Int} (h : RowG 5 1 base w (.slice A n c) n (xs.map (Value.int .u8))) (hb : ∀ x ∈ xs, 0 ≤ x ∧ x ≤ 255) (hn : n ≤ 140737488351232) : Rd w .u8 A n xs := by
  have hl : xs.length = n := by have := h.len; simpa using this
  refine ⟨hl, hn, bytes_wf hb, fun h0 => ?_⟩
  obtain ⟨g, c1, e, _, _, hg, hc, _⟩ := h.at_ h0
  injection e with e _ _
  subst e
  refine ⟨g, 0, rfl, hg, fun j hj => ?_⟩
  rw [Nat.zero_add]
  exact hc j _ (by simp [show j < xs.length by omega])
theorem RowG.room {E : TypeId} {q base : Nat} {w : World} {A : Option Addr} {n c : Nat} {cs : List Value} (h : RowG E q base w (.slice A n c) n cs) : n ≤ c := by
  obtain ⟨A1, c1, e, h1⟩ := h.slice
  injection e with _ _ e
  omega
theorem PsOwn.asPs {A : Option Addr} {n c : Nat} (h : PsOwn base w (.slice A n c) ps cells) (hn : ps.length = n) (hbig : n ≤ 4398046510976) (hok : ∀ p ∈ ps, okPiece p) (hlen : ∀ p ∈ ps, p.2.length ≤ 140737488351232) : Ps w A n ps := by
  refine ⟨hn, hbig, fun h0 => ?_⟩
  obtain ⟨g, c1, e, _, _, hg, hc, _⟩ := h.row.at_ (by omega)
  injection e with e _ _
  subst e
  refine ⟨g, 0, rfl, hg, fun j hj => ?_⟩
  have hj' : j < ps.length := by omega
  obtain ⟨p, hp⟩ : ∃ p, ps[j] = p := ⟨_, rfl⟩
  obtain ⟨t, body⟩ := p
  have hjj : ps[j]? = some (t, body) := by rw [List.getElem?_eq_getElem hj', hp]
  have hm : (t, body) ∈ ps := List.mem_of_getElem? hjj
  obtain ⟨B, cb, h1, h2, h3⟩ := h.body j t body hjj
  have hk := hok _ hm
  refine ⟨t, body, B, body.length, cb, hjj, ⟨hk.1, hk.2.1⟩, by rw [Nat.zero_add]; exact hc _ _ h1, by rw [Nat.zero_add]; exact hc _ _ h2, h3.rd hk.2.2 (hlen _ hm), h3.room, fun e => ?_⟩
  subst e
  exact h3.none_cap.2
end
end Go.Proofs.YtjikjdignhdipaaGreatDoor

namespace Go.Proofs.YtjikjdignhdipaaGreatDoor
open Go.RowKit
set_option linter.unusedSimpArgs false
set_option linter.unusedVariables false

theorem own_take {w : World} {base : Nat} {e : TypeId} {n m c : Nat} {A : Option Addr} {xs : List Value} (h : w.ownsRow base e 1 (.slice A n c) n xs) (hm : m ≤ n) : w.ownsRow base e 1 (.slice A m c) m (xs.take m) := by
  refine ⟨by have := h.1; simp; omega, ?_⟩
  rcases h.2 with ⟨h1, h2⟩ | ⟨g, cap, cur, h1, hb, hh, hc, hx, hs, ht⟩
  · injection h1 with h3 h4 h5
    subst h3 h5
    obtain rfl : m = 0 := by omega
    exact .inl ⟨rfl, rfl⟩
  · injection h1 with h3 h4 h5
    subst h3 h5
    refine .inr ⟨g, c, cur, rfl, hb, hh, by omega, hx, hs, ?_⟩
    rw [← ht, List.take_take]; congr 1; omega
/-- New bytes with room for more. -/
def Twin (w : World) (bs : List Int) (e : Ending) (w' : World) : Prop :=
  ∃ g cap, e = .returned (.slice (some ⟨g, 0, none⟩) bs.length cap) ∧ bs.length < cap ∧ cap ≤ maxLen ∧ w.heap.size ≤ g ∧ g < w'.heap.size ∧ w'.ownsRow w.heap.size 5 1 (.slice (some ⟨g, 0, none⟩) bs.length cap) bs.length (bs.map (Value.int .u8)) ∧ Below w.heap.size w w'

set_option maxRecDepth 100000 in
set_option maxHeartbeats 1000000 in
theorem twin_any (A0 : Option Addr) (n0 c0 : Nat) (bs : List Int) (w : World) (r0 : Rd w .u8 A0 n0 bs) (l0 : n0 ≤ c0) (hn : n0 ≤ 70368744177664) :
    Calls Tryz.prog 15 #[.slice A0 n0 c0] w (Twin w bs) := by
  have hl := r0.len
  obtain ⟨i0, hi, hzz⟩ := Option.map_eq_some_iff.1 info_u8n
  simp only [Prod.mk.injEq] at hzz
  obtain ⟨hz0, hz1, hz2⟩ := hzz
  obtain ⟨w1, hmk, hown, hg⟩ := run_make_own (P := Tryz.prog) w w.heap.size 31 5 i0 (.int .u8 0) 1 Tryz.underlying31 hi hz0 hz1 .i64 .i64 (n0 + 1) (by rw [hz2]; omega) (by unfold maxLen; omega) (Nat.le_refl _)
  have hB1 : Below w.heap.size w w1 := ⟨hg.os, hg.tape, hg.output, hg.size, fun i hi => hg.block i hi (by simp)⟩
  have hst : w1.ownsRow w.heap.size 5 1 (.slice (some ⟨w.heap.size, 0, none⟩) 0 (n0 + 1)) 0 ((bs.take 0).map (Value.int .u8)) := by simpa using hown
  have HST := Lib.hid hst
  have HB := Lib.hid hB1
  clear hst hown hg hi hz0 hz1 hz2 hB1
  have e1 : ((n0 + 1 : Nat) : Int) = (n0 : Int) + 1 := by omega
  rw [e1] at hmk
  go_enter Tryz.func15, Tryz.ntmps15
  go_wp2_with fail
  go_loopw [3, 4] (fun t i wr => ∃ k : Nat, k ≤ n0 ∧ i = .int .i64 k ∧ wr.ownsRow w.heap.size 5 1 t k ((bs.take k).map (Value.int .u8)) ∧ Below w.heap.size w wr) (fun _ i _ => n0 - (intOf i).toNat)
  case atStart => exact ⟨0, Nat.zero_le _, rfl, HST.out, HB.out⟩
  case round =>
    obtain ⟨k, hk, rfl, ho, hB⟩ := hrel
    obtain ⟨AA, cc, rfl, -, -, -⟩ := own_slice ho
    by_cases hlt : k < n0
    · have rr := r0.below hB
      obtain ⟨b, off, rfl, _, hc⟩ := rr.row (by omega)
      have hcj := hc k hlt
      have htk : bs.take (k + 1) = bs.take k ++ [bs[k]?.getD 0] := by rw [List.take_succ_eq_append_getElem (by omega)]; simp [show k < bs.length by omega]
      generalize bs[k]?.getD 0 = x at *
      have i0 : (0 : Int) ≤ (k : Int) := by omega
      have i1 : (k : Int) < (n0 : Int) := by omega
      have HT := Lib.hid htk
      have HO := Lib.hid ho
      have HBB := Lib.hid hB
      clear htk ho hB hc rr hmk
      go_wp2_with (at_builtin; refine append_int (W := wr) w.heap.size rfl _ _ 31 5 .u8 1 rfl Tryz.underlying31 info_u8n (by omega) (.slice AA k cc) k (bs.take k) x rfl rfl HO.out HBB.out.size (by omega) ?_; intro v1 w2 ho2 hk2 hb2)
      go_roundw
      case rel =>
        refine ⟨k + 1, by omega, by go_num, by rw [HT.out]; exact ho2, ?_⟩
        refine below_keeps HBB.out hk2 (Nat.le_refl _) (fun i hi => ?_)
        exact (own_base HO.out i hi).1
      case measure => simp [intOf]; omega
    · obtain rfl : k = n0 := by omega
      have HO := Lib.hid ho
      have HBB := Lib.hid hB
      clear ho hB hmk
      go_wp2_with (at_builtin; refine append_int (W := wr) w.heap.size rfl _ _ 31 5 .u8 1 rfl Tryz.underlying31 info_u8n (by omega) (.slice AA k cc) k (bs.take k) 77 rfl rfl HO.out HBB.out.size (by omega) ?_; intro v1 w2 ho2 hk2 hb2; obtain ⟨g, c, rfl, hc, hg, hlt2⟩ := own_some ho2 (by omega); have hsl := fun W => slice_to W (some ⟨g, 0, none⟩) (k + 1) c k (by omega); have HHC := Lib.hid hc; have HO3 := Lib.hid ho2; clear hc ho2)
      have hc := HHC.out
      have ho2 := HO3.out
      have hcm : c ≤ maxLen := by
        obtain ⟨_, c', e, _, h, _⟩ := own_slice ho2
        injection e with _ _ e; omega
      have HO2 := own_take ho2 (m := k) (by omega)
      have HB2 := below_keeps HBB.out hk2 (Nat.le_refl _) (fun i hi => (own_base HO.out i hi).1)
      go_ret
      refine ⟨g, c, ?_, by omega, hcm, hg, hlt2, ?_, HB2⟩
      · rw [hl]; rfl
      · rw [hl]
        have := HO2
        rw [← List.map_take, List.take_append_of_le_length (by simp; omega), List.take_take, Nat.min_self, List.take_of_length_le (by omega)] at this
        exact this
end Go.Proofs.YtjikjdignhdipaaGreatDoor
