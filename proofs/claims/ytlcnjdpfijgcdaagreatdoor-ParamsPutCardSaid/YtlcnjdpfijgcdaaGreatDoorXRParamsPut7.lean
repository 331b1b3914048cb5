/- The walks over packets.may, params.may, params.filled; pieces in memory; Pieces of the call's own: their row, and each body's row, all in blocks of their own. -/
import Derived.Test.YtlcnjdpfijgcdaaGreatDoorXRParamsPut4
import Derived.Test.YtlcnjdpfijgcdaaGreatDoorXRParamsPut6
import Derived.Test.YtlcnjdpfijgcdaaGreatDoorXRParamsPut5
namespace Go.Proofs.YtlcnjdpfijgcdaaGreatDoor
open Go.RowKit
set_option linter.unusedSimpArgs false
set_option linter.unusedVariables false

theorem filled_any (n : Nat) (w : World) (h : n ≤ 140737488351232) : Calls Tryz.prog 35 #[.int .i64 n] w fun e w' => e = .returned (.int .i64 (fill8 n)) ∧ w = w' := by
  have e1 : IntKind.i64.wrap ((n : Int) + 8) = (n : Int) + 8 := IntWalk.i64_in _ (by omega)
  have e2 : IntKind.i64.wrap ((n : Int) + 8 - 1) = (n : Int) + 8 - 1 := IntWalk.i64_in _ (by omega)
  go_enter Tryz.func35, Tryz.ntmps35
  go_wp2_with fail
  go_ret
  exact ⟨ret_int (by unfold fill8; omega), rfl⟩

/-- A list of pieces in memory. -/
structure Ps (w : World) (A : Option Addr) (n : Nat) (ps : List Piece) : Prop where
  len : ps.length = n
  big : n ≤ 4398046510976
  row : 0 < n → ∃ b off, A = some ⟨b, off, none⟩ ∧ b < w.heap.size ∧ ∀ j, j < n → ∃ t body B m c, ps[j]? = some (t, body) ∧ (0 ≤ t ∧ t ≤ 65535) ∧ w.cell? ⟨b, off + j * 2, none⟩ = some (.int .u16 t) ∧ w.cell? ⟨b, off + j * 2 + 1, none⟩ = some (.slice B m c) ∧ Rd w .u8 B m body ∧ m ≤ c ∧ (B = none → c = 0)
theorem Ps.below {w w' : World} {A : Option Addr} {n : Nat} {ps : List Piece} (h : Ps w A n ps) (hB : Below w.heap.size w w') : Ps w' A n ps :=
  ⟨h.len, h.big, fun h0 => by
    obtain ⟨b, off, e, hb, hc⟩ := h.row h0
    refine ⟨b, off, e, Nat.lt_of_lt_of_le hb hB.size, fun j hj => ?_⟩
    obtain ⟨t, body, B, m, c, h1, h2, h3, h4, h5, h6, h7⟩ := hc j hj
    exact ⟨t, body, B, m, c, h1, h2, (hB.cell (p := ⟨b, off + j * 2, none⟩) hb).trans h3, (hB.cell (p := ⟨b, off + j * 2 + 1, none⟩) hb).trans h4, h5.below hB, h6, h7⟩⟩
theorem ps_nil (w : World) : Ps w none 0 [] := ⟨rfl, by omega, fun h => absurd h (by omega)⟩
/-- The type of the last piece of a beginning. -/
def lastT (ps : List Piece) (k : Nat) : Int := if k = 0 then 0 else ((ps[k - 1]?).map (·.1)).getD 0
theorem rises_take : ∀ (ps : List Piece) (last : Int) (k : Nat), k < ps.length → rises last (ps.take k) = true → ∀ p, ps[k]? = some p → rises last (ps.take (k + 1)) = decide ((if k = 0 then last else ((ps[k - 1]?).map (·.1)).getD 0) < p.1)
  | [], _, k, h, _, _, _ => by simp at h
  | q :: ps, last, 0, _, _, p, hp => by
    simp at hp; subst hp; simp [rises]
  | q :: ps, last, k + 1, h, hr, p, hp => by
    simp only [List.take_succ_cons, rises, Bool.and_eq_true, decide_eq_true_eq] at hr ⊢
    have := rises_take ps q.1 k (by simpa using h) hr.2 p (by simpa using hp)
    rw [this, decide_eq_true hr.1, Bool.true_and]
    cases k with
    | zero => simp
    | succ k => simp
theorem rises_more : ∀ (ps : List Piece) (last : Int) (k : Nat), rises last (ps.take k) = false → rises last ps = false
  | [], _, k, h => by simp [rises] at h
  | q :: ps, last, 0, h => by simp [rises] at h
  | q :: ps, last, k + 1, h => by
    simp only [List.take_succ_cons, rises, Bool.and_eq_false_iff] at h ⊢
    rcases h with h | h
    · exact .inl h
    · exact .inr (rises_more ps q.1 k h)

set_option maxRecDepth 100000 in
set_option maxHeartbeats 1000000 in
theorem pamay_any (A0 : Option Addr) (n0 c0 : Nat) (ps : List Piece) (w : World) (h : Ps w A0 n0 ps) :
    Calls Tryz.prog 90 #[.slice A0 n0 c0] w fun e w' => e = .returned (.bool (rises 0 ps)) ∧ Below w.heap.size w w' := by
  have hbig := h.big
  have hl := h.len
  go_enter Tryz.func90, Tryz.ntmps90
  go_wp2_with fail
  go_loopw [3, 8] (fun t i wr => ∃ k : Nat, k ≤ n0 ∧ i = .int .i64 k ∧ rises 0 (ps.take k) = true ∧ t = .int .u16 (if k = 0 then 0 else ((ps[k - 1]?).map (·.1)).getD 0) ∧ Below w.heap.size w wr) (fun _ i _ => n0 - (intOf i).toNat)
  case atStart => exact ⟨0, Nat.zero_le _, rfl, by simp [rises], rfl, Below.refl _ _⟩
  case round =>
    obtain ⟨k, hk, rfl, hr, rfl, hB⟩ := hrel
    by_cases hlt : k < n0
    · obtain ⟨b, off, rfl, _, hc⟩ := (h.below hB).row (by omega)
      obtain ⟨t, body, B, m, c, h1, h2, h3, h4, _, _, _⟩ := hc k hlt
      have hrt := rises_take ps 0 k (by omega) hr (t, body) h1
      have hmo := rises_more ps 0 (k + 1)
      have hnx : (if k + 1 = 0 then 0 else ((ps[k + 1 - 1]?).map (·.1)).getD 0) = t := by simp [h1]
      generalize (if k = 0 then (0 : Int) else ((ps[k - 1]?).map (·.1)).getD 0) = last at *
      have i0 : (0 : Int) ≤ (k : Int) := by omega
      have i1 : (k : Int) < (n0 : Int) := by omega
      have HRT := Lib.hid hrt
      have HMO := Lib.hid hmo
      have HNX := Lib.hid hnx
      have HBB := Lib.hid hB
      have HR := Lib.hid hr
      have H1 := Lib.hid h1
      clear hrt hmo hnx hB hr h1 hc hl
      by_cases hlast : last < t
      · go_wp2_with fail
        refine ⟨⟨k + 1, by omega, by go_num, by rw [HRT.out]; simpa using hlast, by rw [HNX.out], HBB.out.alloc HBB.out.size _⟩, by simp [intOf]; omega⟩
      · go_wp2_with fail
        go_ret
        refine ⟨ret_bool ?_, HBB.out.alloc HBB.out.size _⟩
        exact (HMO.out (by rw [HRT.out]; simpa using hlast)).symm
    · obtain rfl : k = n0 := by omega
      have hp : ps.take k = ps := by rw [List.take_of_length_le (by omega)]
      rw [hp] at hr
      have HR := Lib.hid hr
      clear hr
      generalize (if k = 0 then (0 : Int) else ((ps[k - 1]?).map (·.1)).getD 0) = last at *
      go_wp2_with fail
      go_ret
      exact ⟨ret_bool HR.out.symm, hB⟩
end Go.Proofs.YtlcnjdpfijgcdaaGreatDoor

namespace Go.Proofs.YtlcnjdpfijgcdaaGreatDoor
open Go.RowKit
set_option linter.unusedSimpArgs false
set_option linter.unusedVariables false

structure PsOwn (base : Nat) (w : World) (v : Value) (ps : List Piece) (cells : List Value) : Prop where
  row : RowG 53 2 base w v ps.length cells
  body : ∀ (j : Nat) (t : Int) (body : List Int), ps[j]? = some (t, body) → ∃ B c, cells[j * 2]? = some (.int .u16 t) ∧ cells[j * 2 + 1]? = some (.slice B body.length c) ∧ RowG 5 1 base w (.slice B body.length c) body.length (body.map (Value.int .u8))
  unlike : ∀ (i j g n c n' c' : Nat), i ≠ j → cells[i * 2 + 1]? = some (.slice (some ⟨g, 0, none⟩) n c) → cells[j * 2 + 1]? ≠ some (.slice (some ⟨g, 0, none⟩) n' c')
section
variable {base : Nat} {w w' : World} {v : Value} {ps : List Piece} {cells : List Value}
theorem PsOwn.keep {M : Nat → Prop} (h : PsOwn base w v ps cells) (hk : Keeps M w w') (hM : ∀ k cur, base ≤ k → (w.heap[k]? = some (.cells cur 5 (0, 0)) ∨ w.heap[k]? = some (.cells cur 53 (0, 0))) → ¬ M k) : PsOwn base w' v ps cells :=
  ⟨h.row.keep hk (fun k hk2 => by obtain ⟨h1, _, cur, h2⟩ := h.row.ty hk2; exact hM k cur h1 (.inr h2)), fun j t body hj => by
    obtain ⟨B, c, h1, h2, h3⟩ := h.body j t body hj
    exact ⟨B, c, h1, h2, h3.keep hk (fun k hk2 => by obtain ⟨h1, _, cur, h2⟩ := h3.ty hk2; exact hM k cur h1 (.inl h2))⟩, h.unlike⟩
theorem PsOwn.below (h : PsOwn base w v ps cells) (hB : Below w.heap.size w w') : PsOwn base w' v ps cells := h.keep (Keeps.of_below (M := fun _ => False) hB) (fun _ _ _ _ h => h)
theorem PsOwn.keepLow {M : Nat → Prop} (h : PsOwn base w v ps cells) (hk : Keeps M w w') (hM : ∀ i, M i → i < base) : PsOwn base w' v ps cells := h.keep hk (fun k _ hb _ hm => by have := hM k hm; omega)
theorem PsOwn.keepTy {M : Nat → Prop} {T : TypeId} {base' : Nat} (h : PsOwn base w v ps cells) (hk : Keeps M w w') (hM : ∀ i, M i → ByTy base' T w i) (h1 : 5 ≠ T) (h2 : 53 ≠ T) : PsOwn base w' v ps cells := h.keep hk (fun k cur _ ht hm => by
  rcases hM k hm with ⟨_, cur2, h3⟩ | h3
  · rcases ht with ht | ht
    · exact h1 (ty_one ht h3)
    · exact h2 (ty_one ht h3)
  · have : k < w.heap.size := by rcases ht with ht | ht <;> exact (Array.getElem?_eq_some_iff.1 ht).1
    omega)
theorem PsOwn.lower {base' : Nat} (h : PsOwn base w v ps cells) (hb : base' ≤ base) : PsOwn base' w v ps cells :=
  ⟨h.row.lower hb, fun j t body hj => by
    obtain ⟨B, c, h1, h2, h3⟩ := h.body j t body hj
    exact ⟨B, c, h1, h2, h3.lower hb⟩, h.unlike⟩
theorem RowG.none_cap {E : TypeId} {q base : Nat} {w : World} {n c : Nat} {cs : List Value} (h : RowG E q base w (.slice none n c) n cs) : n = 0 ∧ c = 0 := by
  obtain ⟨A, c1, c', e, h1, h2, h3⟩ := h
  injection e with e1 _ e2
  subst e1; subst e2
  rcases h3.2 with ⟨h4, h5⟩ | ⟨g, cap, cur, h4, _⟩
  · injection h4 with _ _ h4
    omega
  · injection h4 with h4 _ _
    cases h4
theorem RowG.rd {base : Nat} {w : World} {A : Option Addr} {n c : Nat} {xs : List Int} (h : RowG 5 1 base w (.slice A n c) n (xs.map (Value.int .u8))) (hb : ∀ x ∈ xs, 0 ≤ x ∧ x ≤ 255) (hn : n ≤ 140737488351232) : Rd w .u8 A n xs := by
  have hl : xs.length = n := by have := h.len; simpa using this
  refine ⟨hl, hn, bytes_wf hb, fun h0 => ?_⟩
  obtain ⟨g, c1, e, _, _, hg, hc, _⟩ := h.at_ h0
  injection e with e _ _
  subst e
  refine ⟨g, 0, rfl, hg, fun j hj => ?_⟩
  rw [Nat.zero_add]
  exact hc j _ (by simp [show j < xs.length by omega])
theorem RowG.room {E : TypeId} {q base : Nat} {w : World} {A : Option Addr} {n c : Nat} {cs : List Value} (h : RowG E q base w (.slice A n c) n cs) : n ≤ c := by
  obtain ⟨A1, c1, e, h1⟩ := h.slice
  injection e with _ _ e
  omega
theorem PsOwn.asPs {A : Option Addr} {n c : Nat} (h : PsOwn base w (.slice A n c) ps cells) (hn : ps.length = n) (hbig : n ≤ 4398046510976) (hok : ∀ p ∈ ps, okPiece p) (hlen : ∀ p ∈ ps, p.2.length ≤ 140737488351232) : Ps w A n ps := by
  refine ⟨hn, hbig, fun h0 => ?_⟩
  obtain ⟨g, c1, e, _, _, hg, hc, _⟩ := h.row.at_ (by omega)
  injection e with e _ _
  subst e
  refine ⟨g, 0, rfl, hg, fun j hj => ?_⟩
  have hj' : j < ps.length := by omega
  obtain ⟨p, hp⟩ : ∃ p, ps[j] = p := ⟨_, rfl⟩
  obtain ⟨t, body⟩ := p
  have hjj : ps[j]? = some (t, body) := by rw [List.getElem?_eq_getElem hj', hp]
  have hm : (t, body) ∈ ps := List.mem_of_getElem? hjj
  obtain ⟨B, cb, h1, h2, h3⟩ := h.body j t body hjj
  have hk := hok _ hm
  refine ⟨t, body, B, body.length, cb, hjj, ⟨hk.1, hk.2.1⟩, by rw [Nat.zero_add]; exact hc _ _ h1, by rw [Nat.zero_add]; exact hc _ _ h2, h3.rd hk.2.2 (hlen _ hm), h3.room, fun e => ?_⟩
  subst e
  exact h3.none_cap.2
end
end Go.Proofs.YtlcnjdpfijgcdaaGreatDoor
