/- A part of a block, written anew; Numbers as bytes, the highest first: plain laws on lists of bytes. -/
import Derived.Test.YtgecfcdafbedaaaGreatZRParamsBodies0
import Derived.Deep.MidRow
namespace Go.Proofs.YtgecfcdafbedaaaGreat
open Go.RowKit
set_option linter.unusedSimpArgs false
set_option linter.unusedVariables false

/-- A block's part is written anew. -/
theorem Blk.setCells {g : Nat} {t : TypeId} : ∀ (vs : List Value) (o : Nat) (w : World) (cur : List Value), Blk w g t cur → o + vs.length ≤ cur.length → Blk (w.setCells g o vs) g t (splice cur o vs)
  | [], o, w, cur, h, _ => by simpa [World.setCells, splice] using h
  | v :: r, o, w, cur, h, hl => by
    rw [World.setCells]
    have h1 := Blk.setCells r (o + 1) _ _ (h.put o v) (by simp at hl ⊢; omega)
    have e : splice (cur.set o v) (o + 1) r = splice cur o (v :: r) := by
      simp only [List.length_cons] at hl
      simp only [splice, List.length_cons]
      rw [show o + (r.length + 1) = o + 1 + r.length by omega]
      have e1 : (cur.set o v).take (o + 1) = cur.take o ++ [v] := by
        rw [List.take_succ_eq_append_getElem (by simp; omega), List.take_set]
        have : (cur.take o).set o v = cur.take o := List.set_eq_of_length_le (by simp; omega)
        rw [this]; simp
      rw [e1, List.drop_set_of_lt (by omega)]
      simp
    rwa [e] at h1
theorem Keeps.setCells {g : Nat} : ∀ (vs : List Value) (o : Nat) (w : World), Keeps (· = g) w (w.setCells g o vs)
  | [], o, w => Keeps.refl _ _
  | v :: r, o, w => by
    rw [World.setCells]
    exact (Keeps.set1 w ⟨g, o, none⟩ v).trans (Keeps.setCells r (o + 1) _)
theorem Blk.there {w : World} {g : Nat} {t : TypeId} {cs : List Value} (h : Blk w g t cs) (o n : Nat) (hn : o + n ≤ cs.length) : w.there g o n := fun j hj =>
  ⟨by rw [h.cell, List.getElem?_eq_getElem (by omega)]; rfl, h.free _⟩
theorem Blk.range {w : World} {g : Nat} {t : TypeId} {cs : List Value} (h : Blk w g t cs) : w.rangeAt g 0 cs := fun j v hv => by rw [Nat.zero_add, h.cell]; exact hv
theorem splice_whole (cs ds : List Value) (h : ds.length = cs.length) : splice cs 0 ds = ds := by simp [splice, ← h]
end Go.Proofs.YtgecfcdafbedaaaGreat

namespace Go.Proofs.YtgecfcdafbedaaaGreat
open Go.RowKit
set_option linter.unusedSimpArgs false
set_option linter.unusedVariables false

/-- Induction over the end of a list. -/
theorem snoc_ind {α : Type} {p : List α → Prop} (h0 : p []) (h1 : ∀ l c, p l → p (l ++ [c])) (l : List α) : p l := by
  have key : ∀ n (l : List α), l.length = n → p l := by
    intro n
    induction n with
    | zero => intro l hl; rw [List.eq_nil_of_length_eq_zero hl]; exact h0
    | succ n ih =>
      intro l hl
      have hne : l ≠ [] := by intro e; subst e; simp at hl
      rw [← List.dropLast_concat_getLast hne]
      exact h1 _ _ (ih _ (by simp [hl]))
  exact key _ l rfl

/-- A number in so many bytes, the highest first (its lowest bytes, where it has more). -/
def be (n : Int) : Nat → List Int
  | 0 => []
  | k + 1 => be (n / 256) k ++ [n % 256]
theorem be_length (k : Nat) : ∀ n, (be n k).length = k := by
  induction k with
  | zero => intro n; rfl
  | succ k ih => intro n; simp [be, ih]
theorem be_byte (k : Nat) : ∀ n, ∀ x ∈ be n k, 0 ≤ x ∧ x ≤ 255 := by
  induction k with
  | zero => intro n x hx; simp [be] at hx
  | succ k ih =>
    intro n x hx
    rcases List.mem_append.1 hx with h | h
    · exact ih _ x h
    · obtain rfl : x = n % 256 := by simpa using h
      omega
def pow256 : Nat → Int
  | 0 => 1
  | k + 1 => 256 * pow256 k
theorem pow256_pos (k : Nat) : 0 < pow256 k := by
  induction k with
  | zero => decide
  | succ k ih => simp only [pow256]; omega
/-- The highest byte first. -/
theorem be_cons (k : Nat) : ∀ n, be n (k + 1) = (n / pow256 k) % 256 :: be n k := by
  induction k with
  | zero => intro n; simp [be, pow256]
  | succ k ih =>
    intro n
    show be (n / 256) (k + 1) ++ [n % 256] = _
    rw [ih, pow256, ← Int.ediv_ediv_of_nonneg (by omega)]
    rfl
/-- The number that bytes tell. -/
def told (l : List Int) : Int := l.foldl (fun n c => 256 * n + c) 0
theorem told_nil : told [] = 0 := rfl
theorem told_snoc (l : List Int) (c : Int) : told (l ++ [c]) = 256 * told l + c := by simp [told]
theorem told_append (l m : List Int) : told (l ++ m) = told l * pow256 m.length + told m := by
  induction m using snoc_ind with
  | h0 => simp [told_nil, pow256]
  | h1 m c ih =>
    rw [← List.append_assoc, told_snoc, told_snoc, ih]
    simp only [List.length_append, List.length_cons, List.length_nil, Nat.zero_add, pow256]
    rw [Int.mul_add, Int.add_assoc, ← Int.mul_assoc, ← Int.mul_assoc, Int.mul_comm 256 (told l)]
theorem told_bounds (l : List Int) (h : ∀ x ∈ l, 0 ≤ x ∧ x ≤ 255) : 0 ≤ told l ∧ told l < pow256 l.length := by
  induction l using snoc_ind with
  | h0 => simp [told_nil, pow256]
  | h1 l c ih =>
    have h1 := ih (fun x hx => h x (by simp [hx]))
    have h2 := h c (by simp)
    rw [told_snoc]
    simp only [List.length_append, List.length_cons, List.length_nil, Nat.zero_add, pow256]
    omega
theorem told_be (k : Nat) : ∀ n, 0 ≤ n → n < pow256 k → told (be n k) = n := by
  induction k with
  | zero => intro n h0 h1; simp [pow256] at h1; simp [be, told_nil]; omega
  | succ k ih =>
    intro n h0 h1
    simp only [pow256] at h1
    rw [be, told_snoc, ih (n / 256) (by omega) (by omega)]
    omega
theorem told_rep (k : Nat) : told (List.replicate k 0) = 0 := by
  induction k with
  | zero => rfl
  | succ k ih => rw [List.replicate_succ', told_snoc, ih]; rfl
theorem told_zeros (k : Nat) (l : List Int) : told (List.replicate k 0 ++ l) = told l := by
  rw [told_append, told_rep]; omega
/-- Bytes that come out of the number that they tell. -/
theorem be_told (l : List Int) (h : ∀ x ∈ l, 0 ≤ x ∧ x ≤ 255) : be (told l) l.length = l := by
  induction l using snoc_ind with
  | h0 => rfl
  | h1 l c ih =>
    have h1 := ih (fun x hx => h x (by simp [hx]))
    have h2 := h c (by simp)
    have h3 := (told_bounds l (fun x hx => h x (by simp [hx]))).1
    simp only [List.length_append, List.length_cons, List.length_nil, Nat.zero_add]
    rw [told_snoc, be, show (256 * told l + c) / 256 = told l by omega, show (256 * told l + c) % 256 = c by omega, h1]
end Go.Proofs.YtgecfcdafbedaaaGreat
