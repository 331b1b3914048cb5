/- A set of spots: the calls, with answers that are known. -/
import Derived.Test.YtnnbjcnfekgngaaSOps4
namespace Go.Proofs.Ytnnbjcnfekgngaa
open Go.RowKit
set_option linter.unusedSimpArgs false
set_option linter.unusedVariables false

section
variable {w : World} {p g : Nat} {l : List Spt} {cr : Int}
theorem best_at (h : SetAt w p g l cr) (a : Int) (q : Bool) (hb : bestOf l = (a, q)) : Calls Try.prog 14 #[.pointer (some ⟨p, 0, none⟩)] w fun e w' => e = .returned (.tuple #[.int .u32 a, .bool q]) ∧ SetAt w' p g l cr ∧ Below w.heap.size w w' :=
  (best_any h).mono fun e w' ⟨he, hB⟩ => ⟨by rw [he, hb], h.below hB, hB⟩
theorem state_at (h : SetAt w p g l cr) (a s : Int) (hs : stateOf l a = s) : Calls Try.prog 13 #[.pointer (some ⟨p, 0, none⟩), .int .u32 a] w fun e w' => e = .returned (.int .u8 s) ∧ SetAt w' p g l cr ∧ Below w.heap.size w w' :=
  (state_any h a).mono fun e w' ⟨he, hB⟩ => ⟨by rw [he, hs], h.below hB, hB⟩
theorem change_ok (h : SetAt w p g l cr) (A : Option Addr) (n c : Nat) (xs : List Int) (r : Rd w .u32 A n xs) (hnc : n ≤ c) (hok : SpOk n (atL xs)) (l' : List Spt) (ys : List Int) (m : Nat) (hl : changeL l xs = l') (hy : othersL l xs = ys) (hm : ys.length = m) :
    Calls Try.prog 11 #[.pointer (some ⟨p, 0, none⟩), .slice A n c] w fun e w' => ∃ A' G, e = .returned (.tuple #[.slice A' m m, .int .i64 0]) ∧ ListR w.heap.size w' ys A' ∧ w.heap.size ≤ G ∧ SetAt w' p G l' cr ∧ Keeps (fun i => i = p) w w' :=
  (change_any h A n c xs r hnc (by have := hok.2.1; omega)).mono fun e w' hh => by
    rcases hh with ⟨hno, _⟩ | ⟨_, A', G, he, h1, h2, h3, h4⟩
    · exact absurd hok hno
    · subst hm
      rw [hl] at h3
      rw [hy] at he h1
      exact ⟨A', G, he, h1, h2, h3, h4⟩
theorem change_bad (h : SetAt w p g l cr) (A : Option Addr) (n c : Nat) (xs : List Int) (r : Rd w .u32 A n xs) (hnc : n ≤ c) (hn : n ≤ 35184372087808) (hno : ¬ SpOk n (atL xs)) :
    Calls Try.prog 11 #[.pointer (some ⟨p, 0, none⟩), .slice A n c] w fun e w' => e = .returned (.tuple #[.slice none 0 0, .int .i64 1]) ∧ SetAt w' p g l cr ∧ Below w.heap.size w w' :=
  (change_any h A n c xs r hnc hn).mono fun e w' hh => by
    rcases hh with ⟨_, he, h1, h2⟩ | ⟨hok, _⟩
    · exact ⟨he, h1, h2⟩
    · exact absurd hok hno
theorem ask_at (h : SetAt w p g l cr) (a : Int) (bs : List Int) (hbs : bs.length = 32) (E : Int) (he : askE l a = E) (l' : Nat → List Spt) (hl : ∀ X, askL l a X bs = l' X) :
    Calls Try.prog 7 #[.pointer (some ⟨p, 0, none⟩), .int .u32 a, .agg (bs.map (Value.int .u8)).toArray] w fun e w' => ∃ X, e = .returned (.int .i64 E) ∧ SetAt w' p g (l' X) cr ∧ Keeps (fun i => i = g) w w' :=
  (ask_any h a bs hbs).mono fun e w' ⟨X, _, h1, h2, h3⟩ => ⟨X, by rw [h1, he], by rw [← hl]; exact h2, h3⟩
theorem back_at (h : SetAt w p g l cr) (bs : List Int) (hbs : bs.length = 32) (a E : Int) (he : backE l bs = (a, E)) (l' : List Spt) (hl : backL l bs = l') :
    Calls Try.prog 8 #[.pointer (some ⟨p, 0, none⟩), .agg (bs.map (Value.int .u8)).toArray] w fun e w' => e = .returned (.tuple #[.int .u32 a, .int .i64 E]) ∧ SetAt w' p g l' cr ∧ Keeps (fun i => i = g) w w' :=
  (back_any h bs hbs).mono fun e w' ⟨h1, h2, h3⟩ => ⟨by rw [h1, he], by rw [← hl]; exact h2, h3⟩
theorem came_at (h : SetAt w p g l cr) (b c : Int) (hb : -9223372036854775808 ≤ b ∧ b ≤ 9223372036854775807) (hc : cameC cr b = c) :
    Calls Try.prog 9 #[.pointer (some ⟨p, 0, none⟩), .int .i64 b] w fun e w' => e = .returned (.tuple #[]) ∧ SetAt w' p g l c ∧ Keeps (fun i => i = p) w w' :=
  (came_any h b hb).mono fun e w' ⟨h1, h2, h3⟩ => ⟨h1, by rw [← hc]; exact h2, h3⟩
theorem spend_at (h : SetAt w p g l cr) (b E c : Int) (hb : -9223372036854775808 ≤ b ∧ b ≤ 9223372036854775807) (he : spendE l cr b = E) (hc : spendC l cr b = c) :
    Calls Try.prog 10 #[.pointer (some ⟨p, 0, none⟩), .int .i64 b] w fun e w' => e = .returned (.int .i64 E) ∧ SetAt w' p g l c ∧ Keeps (fun i => i = p) w w' :=
  (spend_any h b hb).mono fun e w' ⟨h1, h2, h3⟩ => ⟨by rw [h1, he], by rw [← hc]; exact h2, h3⟩
end
theorem spok1 {a : Int} (h : a ≠ 0) : SpOk 1 (atL [a]) := by
  refine ⟨by omega, by omega, fun j hj => ?_, fun i j hi hj => by omega⟩
  obtain rfl : j = 0 := by omega
  exact h
theorem spok2 {a b : Int} (h1 : a ≠ 0) (h2 : b ≠ 0) (h : a ≠ b) : SpOk 2 (atL [a, b]) := by
  refine ⟨by omega, by omega, fun j hj => ?_, fun i j hi hj => ?_⟩
  · have hj' : j = 0 ∨ j = 1 := by omega
    rcases hj' with rfl | rfl
    · exact h1
    · exact h2
  · obtain rfl : i = 0 := by omega
    obtain rfl : j = 1 := by omega
    exact h
theorem rd_spots {w : World} {xs : List Int} {n : Nat} (hl : xs.length = n) (hn : n ≤ 140737488351232) (hb : ∀ x ∈ xs, 0 ≤ x ∧ x ≤ 4294967295) : Rd (w.alloc (.cells (xs.map (Value.int .u32)).toArray 23)) .u32 (some ⟨w.heap.size, 0, none⟩) n xs :=
  have hk := Blk.new w 23 (xs.map (Value.int .u32))
  ⟨hl, hn, fun x hx => wf_of_u32S (hb x hx), fun h0 => ⟨_, 0, rfl, hk.lt, fun j hj => by rw [Nat.zero_add]; exact hk.int_at j (by omega)⟩⟩
/-- A list's first spot, and its block. -/
theorem ListR.one {base : Nat} {w : World} {a : Int} {A : Option Addr} (h : ListR base w [a] A) : ∃ G cells, A = some ⟨G, 0, none⟩ ∧ base ≤ G ∧ Blk w G 23 cells ∧ cells[0]? = some (.int .u32 a) := by
  obtain ⟨G, cells, h1, h2, h3, h4⟩ := h.1 (by simp)
  refine ⟨G, cells, h1, h2, h3, ?_⟩
  have : cells[0]? = (cells.take 1)[0]? := by simp [List.getElem?_take]
  rw [this, show cells.take 1 = _ from h4]; rfl
end Go.Proofs.Ytnnbjcnfekgngaa
