/- The walk over alive: the chapter's examples. -/
import Derived.Test.YtpoljlmkeldbpaaNPut
import Derived.Test.YtpoljlmkeldbpaaNBytes
import Derived.Test.YtpoljlmkeldbpaaNMake
import Derived.Test.YtpoljlmkeldbpaaNSame
namespace Go.Proofs.Ytpoljlmkeldbpaa
open Go.RowKit
set_option linter.unusedSimpArgs false
set_option linter.unusedVariables false

theorem bytes_wf {xs : List Int} (h : ∀ x ∈ xs, 0 ≤ x ∧ x ≤ 255) : ∀ x ∈ xs, (Lit.int .u8 x).wf = true := fun x hx => by
  simp only [Lit.wf, Bool.and_eq_true, decide_eq_true_eq]; exact h x hx
theorem rd_of_blk {w : World} {g n : Nat} {t : TypeId} {xs : List Int} (h : Blk w g t (xs.map (Value.int .u8))) (hw : ∀ x ∈ xs, 0 ≤ x ∧ x ≤ 255) (hl : xs.length = n) (hb : n ≤ 140737488351232) : Rd w .u8 (some ⟨g, 0, none⟩) n xs :=
  ⟨hl, hb, bytes_wf hw, fun _ => ⟨g, 0, rfl, h.lt, fun j hj => by rw [Nat.zero_add]; exact h.int_at j (by omega)⟩⟩
theorem rd_of_in {w : World} {g n : Nat} {t : TypeId} {cells : List Value} {xs : List Int} (h : Blk w g t cells) (ht : cells.take n = xs.map (Value.int .u8)) (hw : ∀ x ∈ xs, 0 ≤ x ∧ x ≤ 255) (hl : xs.length = n) (hb : n ≤ 140737488351232) : Rd w .u8 (some ⟨g, 0, none⟩) n xs :=
  ⟨hl, hb, bytes_wf hw, fun _ => ⟨g, 0, rfl, h.lt, fun j hj => by
    rw [Nat.zero_add, h.cell j, show cells[j]? = (cells.take n)[j]? by simp [List.getElem?_take, hj], ht]
    simp [hl, hj]⟩⟩
theorem rd_lit (w : World) (xs : List Int) (n : Nat) (hw : ∀ x ∈ xs, 0 ≤ x ∧ x ≤ 255) (hl : xs.length = n) (hb : n ≤ 140737488351232) : Rd (w.alloc (.cells (xs.map (Value.int .u8)).toArray 5)) .u8 (some ⟨w.heap.size, 0, none⟩) n xs :=
  rd_of_blk (Blk.new w 5 _) hw hl hb
theorem new_below (w : World) (o : Obj) : Below w.heap.size w (w.alloc o) := (Below.refl _ _).alloc (Nat.le_refl _) _

/-- 9, and 5 as a long number. -/
def five : List Int := [9, 0,0,0,0,0,0,0,0, 0,0,0,0,0,0,0,0, 0,0,0,0,0,0,0,0, 0,0,0,0,0,0,0,5]
theorem five_byte : ∀ x ∈ five, 0 ≤ x ∧ x ≤ 255 := by decide
theorem a_five (w : World) : Calls Try.prog 11 #[.slice (some ⟨w.heap.size, 0, none⟩) 1 1, .agg #[.int .u64 5, .int .u64 0, .int .u64 0, .int .u64 0]] (w.alloc (.cells #[.int .u8 9] 5)) (Made w five) :=
  (putlong_any _ 1 1 [9] 5 0 0 0 _ (rd_lit w [9] 1 (by decide) rfl (by omega)) (by omega) (by omega) (by omega) (by omega) (by omega)).mono fun e w' h => by
    have h' : Made (w.alloc (.cells #[.int .u8 9] 5)) five e w' := by
      rw [show five = [9] ++ flat [0, 0, 0, 5] 8 by decide]; exact h
    exact h'.before (new_below _ _)
theorem a_long1 (w : World) (g : Nat) (h : Blk w g 5 (five.map (Value.int .u8))) : Calls Try.prog 12 #[.slice (some ⟨g, 1, none⟩) 32 32] w fun e w' => e = .returned (.tuple #[.agg #[.int .u64 5, .int .u64 0, .int .u64 0, .int .u64 0], .int .i64 0]) ∧ Below w.heap.size w w' :=
  (getlong_any _ 32 32 _ w ((rd_of_blk h five_byte (n := 33) rfl (by omega)).sub 1 32 (by omega)) (by omega)).mono fun e w' ⟨he, hB⟩ => ⟨by rw [he, show longGot ((five.drop 1).take 32) 32 = [5, 0, 0, 0] by decide]; rfl, hB⟩
theorem a_long2 (w : World) (g : Nat) (h : Blk w g 5 (five.map (Value.int .u8))) : Calls Try.prog 12 #[.slice (some ⟨g, 2, none⟩) 31 31] w fun e w' => e = .returned (.tuple #[.agg #[.int .u64 0, .int .u64 0, .int .u64 0, .int .u64 0], .int .i64 5]) ∧ Below w.heap.size w w' :=
  (getlong_any _ 31 31 _ w ((rd_of_blk h five_byte (n := 33) rfl (by omega)).sub 2 31 (by omega)) (by omega)).mono fun e w' ⟨he, hB⟩ => ⟨by rw [he, show longGot ((five.drop 2).take 31) 31 = [0, 0, 0, 0] by decide]; rfl, hB⟩
theorem a_get3 (w : World) : Calls Try.prog 13 #[.slice (some ⟨w.heap.size, 0, none⟩) 3 3, .int .i64 2] (w.alloc (.cells #[.int .u8 1, .int .u8 2, .int .u8 7] 5)) fun e w' => e = .returned (.tuple #[.int .u64 258, .int .i64 0]) ∧ Below w.heap.size w w' :=
  (get_any _ 3 3 [1, 2, 7] 2 _ (rd_lit w [1, 2, 7] 3 (by decide) rfl (by omega)) (by omega)).mono fun e w' ⟨he, hB⟩ => ⟨by rw [he, show getN [1, 2, 7] 3 2 = 258 by decide, show getE 3 2 = 0 by decide], (new_below w _).trans (hB.mono (new_below w _).size)⟩
theorem a_get1 (w : World) : Calls Try.prog 13 #[.slice (some ⟨w.heap.size, 0, none⟩) 1 1, .int .i64 2] (w.alloc (.cells #[.int .u8 1] 5)) fun e w' => e = .returned (.tuple #[.int .u64 0, .int .i64 5]) ∧ Below w.heap.size w w' :=
  (get_any _ 1 1 [1] 2 _ (rd_lit w [1] 1 (by decide) rfl (by omega)) (by omega)).mono fun e w' ⟨he, hB⟩ => ⟨by rw [he, show getN [1] 1 2 = 0 by decide, show getE 1 2 = 5 by decide], (new_below w _).trans (hB.mono (new_below w _).size)⟩
theorem a_get9 (w : World) : Calls Try.prog 13 #[.slice (some ⟨w.heap.size, 0, none⟩) 1 1, .int .i64 9] (w.alloc (.cells #[.int .u8 1] 5)) fun e w' => e = .returned (.tuple #[.int .u64 0, .int .i64 1]) ∧ Below w.heap.size w w' :=
  (get_any _ 1 1 [1] 9 _ (rd_lit w [1] 1 (by decide) rfl (by omega)) (by omega)).mono fun e w' ⟨he, hB⟩ => ⟨by rw [he, show getN [1] 1 9 = 0 by decide, show getE 1 9 = 1 by decide], (new_below w _).trans (hB.mono (new_below w _).size)⟩
theorem a_gb7 (w : World) : Calls Try.prog 14 #[.slice (some ⟨w.heap.size, 0, none⟩) 7 7] (w.alloc (.cells #[.int .u8 0, .int .u8 0, .int .u8 0, .int .u8 2, .int .u8 7, .int .u8 8, .int .u8 9] 5)) fun e w' => ∃ g, e = .returned (.tuple #[.slice (some ⟨g, 0, none⟩) 2 2, .int .i64 6, .int .i64 0]) ∧ w.heap.size ≤ g ∧ Blk w' g 5 [.int .u8 7, .int .u8 8] ∧ Below w.heap.size w w' :=
  (getbytes_any _ 7 7 [0, 0, 0, 2, 7, 8, 9] _ (rd_lit w [0, 0, 0, 2, 7, 8, 9] 7 (by decide) rfl (by omega)) (by omega)).mono fun e w' h => by
    have hg : gotB [0, 0, 0, 2, 7, 8, 9] = some [7, 8] := by decide
    have hb := (new_below w (.cells #[.int .u8 0, .int .u8 0, .int .u8 0, .int .u8 2, .int .u8 7, .int .u8 8, .int .u8 9] 5)).size
    rcases h with ⟨h0, _⟩ | ⟨l, g, h0, hgb, he, hk, hB⟩
    · rw [hg] at h0; cases h0
    · rw [hg] at h0; injection h0 with h0; subst h0
      exact ⟨g, he, Nat.le_trans hb hgb, hk, (new_below w _).trans (hB.mono hb)⟩
theorem a_gb5 (w : World) : Calls Try.prog 14 #[.slice (some ⟨w.heap.size, 0, none⟩) 5 5] (w.alloc (.cells #[.int .u8 0, .int .u8 0, .int .u8 0, .int .u8 2, .int .u8 7] 5)) fun e w' => e = .returned (.tuple #[.slice none 0 0, .int .i64 0, .int .i64 5]) ∧ Below w.heap.size w w' :=
  (getbytes_any _ 5 5 [0, 0, 0, 2, 7] _ (rd_lit w [0, 0, 0, 2, 7] 5 (by decide) rfl (by omega)) (by omega)).mono fun e w' h => by
    have hg : gotB [0, 0, 0, 2, 7] = none := by decide
    have hb := (new_below w (.cells #[.int .u8 0, .int .u8 0, .int .u8 0, .int .u8 2, .int .u8 7] 5)).size
    rcases h with ⟨h0, he, hB⟩ | ⟨l, g, h0, _⟩
    · exact ⟨he, (new_below w _).trans (hB.mono hb)⟩
    · rw [hg] at h0; cases h0
theorem a_put (w : World) : Calls Try.prog 7 #[.slice (some ⟨w.heap.size, 0, none⟩) 1 1, .int .u64 258, .int .i64 2] (w.alloc (.cells #[.int .u8 9] 5)) (Made w [9, 1, 2]) :=
  (put_any _ 1 1 [9] 258 2 _ (rd_lit w [9] 1 (by decide) rfl (by omega)) (by omega) (by omega) (by omega)).mono fun e w' h => by
    have h' : Made (w.alloc (.cells #[.int .u8 9] 5)) [9, 1, 2] e w' := by
      rw [show [9, 1, 2] = [9] ++ be 258 (putMany 2) by decide]; exact h
    exact h'.before (new_below _ _)
theorem a_pb (w : World) : Calls Try.prog 15 #[.slice (some ⟨w.heap.size, 0, none⟩) 1 1, .slice (some ⟨w.heap.size + 1, 0, none⟩) 2 2] ((w.alloc (.cells #[.int .u8 1] 5)).alloc (.cells #[.int .u8 7, .int .u8 7] 5)) (MadeIn w [1, 0, 0, 0, 2, 7, 7]) := by
  have hb1 := new_below w (.cells #[.int .u8 1] 5)
  have hb2 := new_below (w.alloc (.cells #[.int .u8 1] 5)) (.cells #[.int .u8 7, .int .u8 7] 5)
  have r0 := (rd_lit w [1] 1 (by decide) rfl (by omega)).below hb2
  have r1 := rd_lit (w.alloc (.cells #[.int .u8 1] 5)) [7, 7] 2 (by decide) rfl (by omega)
  rw [World.size_alloc] at r1
  refine (putbytes_any _ 1 1 [1] _ 2 2 [7, 7] _ r0 (by omega) r1 (by simp) (by omega) (by omega)).mono fun e w' h => ?_
  rw [show ([1] ++ be ((2 : Nat) : Int) 4 ++ [7, 7]) = [1, 0, 0, 0, 2, 7, 7] by decide] at h
  obtain ⟨g, cells, hg, he, hk, ht, hB⟩ := h
  have hs : w.heap.size ≤ ((w.alloc (.cells #[.int .u8 1] 5)).alloc (.cells #[.int .u8 7, .int .u8 7] 5)).heap.size := Nat.le_trans hb1.size hb2.size
  exact ⟨g, cells, Nat.le_trans hs hg, he, hk, ht, (hb1.trans (hb2.mono hb1.size)).trans (hB.mono hs)⟩
end Go.Proofs.Ytpoljlmkeldbpaa
