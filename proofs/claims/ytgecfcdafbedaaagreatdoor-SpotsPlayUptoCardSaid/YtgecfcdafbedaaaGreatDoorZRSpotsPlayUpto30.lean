/- A Book of lists of any kinds in memory; what is kept of rows; append of one element, told closer. -/
import Derived.Test.YtgecfcdafbedaaaGreatDoorZRSpotsPlayUpto25
namespace Go.Proofs.YtgecfcdafbedaaaGreatDoor
open Go.RowKit
set_option linter.unusedSimpArgs false
set_option linter.unusedVariables false

/-- A list that a Book holds. -/
structure Hb where
  A : Option Addr
  len : Nat
  cap : Nat
  A2 : Option Addr
  len2 : Nat
  cap2 : Nat
  n : Nat
def Hb.l (h : Hb) : Value := .slice h.A h.len h.cap
def Hb.long (h : Hb) : Value := .slice h.A2 h.len2 h.cap2
def hbC (h : Hb) : List Value := [h.l, h.long, .int .i64 (h.n : Int)]
def flatH (hs : List Hb) : List Value := (hs.map hbC).flatten
theorem flatH_snoc (hs : List Hb) (h : Hb) : flatH (hs ++ [h]) = flatH hs ++ hbC h := by simp [flatH]
theorem flatH_at : ∀ (hs : List Hb) (j k : Nat) (h : Hb), hs[j]? = some h → k < 3 → (flatH hs)[3 * j + k]? = (hbC h)[k]?
  | [], j, k, h, hj, _ => by simp at hj
  | x :: hs, 0, k, h, hj, hk => by
    simp only [List.getElem?_cons_zero, Option.some.injEq] at hj
    subst hj
    rw [flatH, List.map_cons, List.flatten_cons, List.getElem?_append_left (by simp [hbC]; omega)]
    congr 1; omega
  | x :: hs, j + 1, k, h, hj, hk => by
    rw [flatH, List.map_cons, List.flatten_cons, List.getElem?_append_right (by simp [hbC]; omega)]
    rw [show 3 * (j + 1) + k - (hbC x).length = 3 * j + k by simp [hbC]; omega]
    exact flatH_at hs j k h (by simpa using hj) hk
theorem flatH_len (hs : List Hb) : (flatH hs).length = hs.length * 3 := by
  induction hs with
  | nil => rfl
  | cons x hs ih => rw [flatH, List.map_cons, List.flatten_cons, List.length_append]; unfold flatH at ih; rw [ih]; simp [hbC]; omega
theorem flatH_set {hs : List Hb} {j : Nat} {h h' : Hb} {v : Value} (hj : hs[j]? = some h) (hv : hbC h' = (hbC h).set 1 v) : (flatH hs).set (j * 3 + 1) v = flatH (hs.set j h') := by
  have hi : j < hs.length := (List.getElem?_eq_some_iff.1 hj).1
  have he : hs[j] = h := (List.getElem?_eq_some_iff.1 hj).2
  have hsplit : hs = hs.take j ++ h :: hs.drop (j + 1) := by rw [← he, ← List.drop_eq_getElem_cons hi, List.take_append_drop]
  have hA : (flatH (hs.take j)).length = j * 3 := by rw [flatH_len, List.length_take, Nat.min_eq_left (by omega)]
  have e1 : flatH hs = flatH (hs.take j) ++ (hbC h ++ flatH (hs.drop (j + 1))) := by
    have := congrArg flatH hsplit
    rw [this]; simp [flatH]
  have e2 : flatH (hs.set j h') = flatH (hs.take j) ++ (hbC h' ++ flatH (hs.drop (j + 1))) := by
    rw [List.set_eq_take_append_cons_drop, if_pos hi]; simp [flatH]
  rw [e1, e2, List.set_append, if_neg (by omega), List.set_append, if_pos (by simp [hbC]; omega), show j * 3 + 1 - (flatH (hs.take j)).length = 1 by omega, hv]
theorem hbC_one (h : Hb) : ∀ v ∈ hbC h, v.oneCell' = true := by
  intro v hv
  simp only [hbC, Hb.l, Hb.long, List.mem_cons, List.not_mem_nil, or_false] at hv
  rcases hv with rfl | rfl | rfl <;> rfl

/-- What a kind of list is: its place in a Book, the type of what is held, of an element, its cells, the marks. -/
structure Kd where
  i : Nat
  H : TypeId
  E : TypeId
  q : Nat
  mark : Nat → List Value
/-- The types of what is held. -/
def HT : Nat → TypeId
  | 1 => 104 | 2 => 108 | 3 => 112 | 4 => 116 | 5 => 122 | 6 => 126 | 7 => 102 | 8 => 133 | 9 => 137 | 10 => 141 | 11 => 148 | 12 => 155 | 13 => 161 | 14 => 167 | 15 => 175
  | _ => 0
theorem HT_inj : ∀ j : Fin 16, ∀ k : Fin 16, 1 ≤ j.val → 1 ≤ k.val → j.val ≠ k.val → HT j.val ≠ HT k.val := by decide
theorem HT_ne {j k : Nat} (h1 : 1 ≤ j) (h2 : j ≤ 15) (h3 : 1 ≤ k) (h4 : k ≤ 15) (hne : j ≠ k) : HT j ≠ HT k := HT_inj ⟨j, by omega⟩ ⟨k, by omega⟩ h1 h3 hne
/-- Such a type is none of a Book's own. -/
def Far (t : TypeId) : Prop := t ≠ 49 ∧ ∀ k : Fin 16, 1 ≤ k.val → HT k.val ≠ t
theorem HT_book : ∀ k : Fin 16, 1 ≤ k.val → HT k.val ≠ 49 := by decide
structure Kd.Ok (K : Kd) : Prop where
  pos : 0 < K.q
  lo : 1 ≤ K.i
  hi : K.i ≤ 15
  h : K.H = HT K.i
  len : ∀ n, (K.mark n).length = K.q
  one : ∀ n, ∀ v ∈ K.mark n, v.oneCell' = true
  far : Far K.E
def bookV (m : Nat) (S : Nat → Value) : List Value := [.int .i64 (m : Int), S 1, S 2, S 3, S 4, S 5, S 6, S 7, S 8, S 9, S 10, S 11, S 12, S 13, S 14, S 15]
theorem bookV_at (m : Nat) (S : Nat → Value) {k : Nat} (h1 : 1 ≤ k) (h2 : k ≤ 15) : (bookV m S)[k]? = some (S k) := by
  rcases (by omega : k = 1 ∨ k = 2 ∨ k = 3 ∨ k = 4 ∨ k = 5 ∨ k = 6 ∨ k = 7 ∨ k = 8 ∨ k = 9 ∨ k = 10 ∨ k = 11 ∨ k = 12 ∨ k = 13 ∨ k = 14 ∨ k = 15) with rfl | rfl | rfl | rfl | rfl | rfl | rfl | rfl | rfl | rfl | rfl | rfl | rfl | rfl | rfl <;> rfl
def upd {α : Type} (f : Nat → α) (k : Nat) (v : α) : Nat → α := fun j => if j = k then v else f j
theorem upd_same {α : Type} (f : Nat → α) (k : Nat) (v : α) : upd f k v k = v := by simp [upd]
theorem upd_ne {α : Type} (f : Nat → α) {j k : Nat} (v : α) (h : j ≠ k) : upd f k v j = f j := by simp [upd, h]
theorem bookV_set (m m' : Nat) (S : Nat → Value) (v : Value) {k : Nat} (h1 : 1 ≤ k) (h2 : k ≤ 15) : (bookV m S).set k v = bookV m (upd S k v) := by
  rcases (by omega : k = 1 ∨ k = 2 ∨ k = 3 ∨ k = 4 ∨ k = 5 ∨ k = 6 ∨ k = 7 ∨ k = 8 ∨ k = 9 ∨ k = 10 ∨ k = 11 ∨ k = 12 ∨ k = 13 ∨ k = 14 ∨ k = 15) with rfl | rfl | rfl | rfl | rfl | rfl | rfl | rfl | rfl | rfl | rfl | rfl | rfl | rfl | rfl <;> rfl
/-- The Book in memory: how many it was told, and of each kind its lists. -/
structure BookAt (base : Nat) (w : World) (B m : Nat) (H : Nat → List Hb) : Prop where
  box : ∃ S, Blk w B 49 (bookV m S) ∧ (∀ k, 1 ≤ k → k ≤ 15 → w.ownsRow base (HT k) 3 (S k) (H k).length (flatH (H k))) ∧ ∀ k, H k = [] → S k = .slice none 0 0
  lo : base ≤ B
  few : ∀ k, 1 ≤ k → k ≤ 15 → (H k).length ≤ m
  most : m ≤ 30000
def RowIs (K : Kd) (base : Nat) (w : World) (h : Hb) (cs : List Value) : Prop := RowG K.E K.q base w h.l h.len cs
/-- So many marks. -/
def marksG (K : Kd) (n k : Nat) : List Value := (List.replicate k (K.mark n)).flatten
theorem marksG_snoc (K : Kd) (n k : Nat) : marksG K n (k + 1) = marksG K n k ++ K.mark n := by simp [marksG, List.replicate_succ', List.flatten_append]
theorem marksG_len {K : Kd} (hK : K.Ok) (n : Nat) : ∀ k, (marksG K n k).length = k * K.q
  | 0 => by simp [marksG]
  | k + 1 => by rw [marksG_snoc, List.length_append, marksG_len hK n k, hK.len, Nat.succ_mul]
theorem marksG_at {K : Kd} (hK : K.Ok) (n : Nat) : ∀ (k j i : Nat), j < k → i < K.q → (marksG K n k)[j * K.q + i]? = (K.mark n)[i]?
  | 0, j, i, h, _ => by omega
  | k + 1, j, i, h, hi => by
    rw [marksG_snoc]
    have hl := marksG_len hK n k
    rcases Nat.lt_or_ge j k with h1 | h1
    · have : j * K.q + i < k * K.q := Nat.lt_of_lt_of_le (by rw [Nat.succ_mul]; omega) (Nat.mul_le_mul_right K.q (by omega : j + 1 ≤ k))
      rw [List.getElem?_append_left (by omega)]
      exact marksG_at hK n k j i h1 hi
    · obtain rfl : j = k := by omega
      rw [List.getElem?_append_right (by omega), hl]
      congr 1; omega
theorem marksG_splice {K : Kd} (hK : K.Ok) (n k : Nat) (cs : List Value) (hk : (k + 1) * K.q ≤ cs.length) : splice (marksG K n k ++ cs.drop (k * K.q)) (k * K.q) (K.mark n) = marksG K n (k + 1) ++ cs.drop ((k + 1) * K.q) := by
  have hl := marksG_len hK n k
  have hm := hK.len n
  have e : (k + 1) * K.q = k * K.q + K.q := Nat.succ_mul _ _
  unfold splice
  rw [List.take_append_of_le_length (by omega), List.take_of_length_le (by omega), List.drop_append, List.drop_eq_nil_of_le (by omega), List.nil_append, List.drop_drop, marksG_snoc, List.append_assoc]
  congr 2
  rw [hm, hl, e]
  congr 1; omega
/-- The own blocks are unlike. -/
def Unlike (hs : List Hb) : Prop := ∀ (i j : Nat) (a b : Hb), hs[i]? = some a → hs[j]? = some b → i ≠ j → ∀ k, a.l.ownBlock = some k → b.l.ownBlock ≠ some k
theorem unlike_of_pairwise {hs : List Hb} (h : hs.Pairwise fun a b => ∀ k, a.l.ownBlock = some k → b.l.ownBlock ≠ some k) : Unlike hs := by
  intro i j a b hi hj hne k hk hk2
  obtain ⟨hil, rfl⟩ := List.getElem?_eq_some_iff.1 hi
  obtain ⟨hjl, rfl⟩ := List.getElem?_eq_some_iff.1 hj
  have hp := List.pairwise_iff_getElem.1 h
  rcases Nat.lt_or_ge i j with h1 | h1
  · exact hp i j hil hjl h1 k hk hk2
  · exact hp j i hjl hil (by omega) k hk2 hk
/-- All lists of a kind may be held: few, and none too long. -/
structure Fine (hs : List Hb) : Prop where
  unlike : Unlike hs
  n : ∀ (i : Nat) (h : Hb), hs[i]? = some h → 1 ≤ h.n ∧ h.n ≤ 30000
  len : ∀ (i : Nat) (h : Hb), hs[i]? = some h → h.len ≤ 274877906944
section
variable {base : Nat} {w w' : World} {B m : Nat} {H : Nat → List Hb} {h : Hb}
theorem BookAt.lt (hb : BookAt base w B m H) : B < w.heap.size := by obtain ⟨S, h1, _⟩ := hb.box; exact h1.lt
/-- What leaves the Book's own blocks as they are leaves the Book. -/
theorem BookAt.keep {M : Nat → Prop} (hb : BookAt base w B m H) (hk : Keeps M w w') (hB : ¬ M B) (hM : ∀ i cur k, 1 ≤ k → k ≤ 15 → w.heap[i]? = some (.cells cur (HT k) (0, 0)) → ¬ M i) : BookAt base w' B m H := by
  obtain ⟨S, h1, h2, h3⟩ := hb.box
  refine ⟨⟨S, h1.keep hk hB, fun k hk1 hk2 => hk.own (h2 k hk1 hk2) (fun j hj => ?_), h3⟩, hb.lo, hb.few, hb.most⟩
  obtain ⟨_, _, cur, hc⟩ := own_type (h2 k hk1 hk2) hj
  exact hM j cur k hk1 hk2 hc
theorem BookAt.below (hb : BookAt base w B m H) (hB : Below w.heap.size w w') : BookAt base w' B m H :=
  hb.keep (Keeps.of_below (M := fun _ => False) hB) (fun h => h) (fun _ _ _ _ _ _ h => h)
/-- What turns blocks of a type that is none of the Book's own leaves the Book. -/
theorem BookAt.keepFar {base' : Nat} {T : TypeId} {M : Nat → Prop} (hb : BookAt base w B m H) (hk : Keeps M w w') (hM : ∀ i, M i → ByTy base' T w i) (hf : Far T) : BookAt base w' B m H := by
  refine hb.keep hk (fun hm => ?_) (fun i cur k h1 h2 hc hm => ?_)
  · rcases hM B hm with ⟨_, cur, h1⟩ | h1
    · obtain ⟨S, hB, _⟩ := hb.box
      exact hf.1 (ty_one h1 hB)
    · have := hb.lt; omega
  · rcases hM i hm with ⟨_, cur', h3⟩ | h3
    · exact hf.2 ⟨k, by omega⟩ h1 (ty_one hc h3)
    · have := (Array.getElem?_eq_some_iff.1 hc).1; omega
/-- The Book's row of a list. -/
theorem BookAt.at_ {k : Nat} (hb : BookAt base w B m H) (h1 : 1 ≤ k) (h2 : k ≤ 15) {j : Nat} (hj : (H k)[j]? = some h) :
    ∃ g c, w.cell? ⟨B, k, none⟩ = some (.slice (some ⟨g, 0, none⟩) (H k).length c) ∧ (H k).length ≤ c ∧ g < w.heap.size ∧ base ≤ g ∧ (∃ cur, w.heap[g]? = some (.cells cur (HT k) (0, 0))) ∧ ∀ o, o = j * 3 → w.rangeAt g o (hbC h) := by
  obtain ⟨S, h3, h4, _⟩ := hb.box
  have h5 := h4 k h1 h2
  have hjl : j < (H k).length := (List.getElem?_eq_some_iff.1 hj).1
  obtain ⟨A, c, e, hc, _, hp⟩ := own_slice h5
  obtain ⟨g, rfl, hbg, hg, ho⟩ := hp (by omega)
  obtain ⟨_, _, hcur⟩ := own_type h5 ho
  refine ⟨g, c, by rw [h3.cell, bookV_at m S h1 h2, e], hc, hg, hbg, hcur, fun o ho' i u hu => ?_⟩
  have hi : i < 3 := by
    have := (List.getElem?_eq_some_iff.1 hu).1
    simpa [hbC] using this
  have e1 := flatH_at (H k) j i h hj hi
  rw [hu] at e1
  have e2 := h5.cells ho (3 * j + i) u e1
  rw [show (⟨g, 0, none⟩ : Addr).add (3 * j + i) = ⟨g, 3 * j + i, none⟩ by unfold Addr.add; split <;> simp_all] at e2
  subst ho'
  rwa [show 3 * j + i = j * 3 + i by omega] at e2
/-- The Book's cell of a kind. -/
theorem BookAt.cell {k : Nat} (hb : BookAt base w B m H) (h1 : 1 ≤ k) (h2 : k ≤ 15) : ∃ A c, w.cell? ⟨B, k, none⟩ = some (.slice A (H k).length c) ∧ (H k).length ≤ c := by
  obtain ⟨S, h3, h4, _⟩ := hb.box
  obtain ⟨A, c, e, hc, _⟩ := own_slice (h4 k h1 h2)
  exact ⟨A, c, by rw [h3.cell, bookV_at m S h1 h2, e], hc⟩
theorem BookAt.nil {k : Nat} (hb : BookAt base w B m H) (h1 : 1 ≤ k) (h2 : k ≤ 15) (hn : H k = []) : w.cell? ⟨B, k, none⟩ = some (.slice none 0 0) := by
  obtain ⟨S, h3, _, h5⟩ := hb.box
  rw [h3.cell, bookV_at m S h1 h2, h5 k hn]
end
theorem RowG.low {K : Kd} (hK : K.Ok) {base : Nat} {w : World} {v : Value} {n m : Nat} (hr : RowG K.E K.q base w v n (marksG K m n)) {g : Nat} (hg : v.ownBlock = some g) : ∀ j, j < n → w.rangeAt g (j * K.q) (K.mark m) := fun j hj i u hu => by
  obtain ⟨g', c, rfl, _, _, _, hc, _⟩ := hr.at_ (by omega)
  have e : g' = g := by simpa [Value.ownBlock] using hg
  subst e
  have hi : i < K.q := by rw [← hK.len m]; exact (List.getElem?_eq_some_iff.1 hu).1
  exact hc _ u (by rw [marksG_at hK m n j i hj hi]; exact hu)
theorem own_of_A {h : Hb} {g : Nat} (hA : h.A = some ⟨g, 0, none⟩) : h.l.ownBlock = some g := by
  show (Value.slice h.A h.len h.cap).ownBlock = _
  rw [hA]; rfl
/-- A list's own elements are marks. -/
def Low (K : Kd) (w : World) (h : Hb) : Prop := ∀ g, h.l.ownBlock = some g → g < w.heap.size ∧ (∃ cur, w.heap[g]? = some (.cells cur K.E (0, 0))) ∧ ∀ j, j < h.len → w.rangeAt g (j * K.q) (K.mark h.n)
theorem rangeAt_keep {M : Nat → Prop} {w w' : World} {g o : Nat} {cs : List Value} (hr : w.rangeAt g o cs) (hk : Keeps M w w') (hg : g < w.heap.size) (hM : ¬ M g) : w'.rangeAt g o cs := fun i u hu =>
  (hk.cell (p := ⟨g, o + i, none⟩) hg hM).trans (hr i u hu)
theorem Low.keep {K : Kd} {w w' : World} {h : Hb} {M : Nat → Prop} (hl : Low K w h) (hk : Keeps M w w') (hM : ∀ g, h.l.ownBlock = some g → ¬ M g) : Low K w' h := fun g hg => by
  obtain ⟨h1, ⟨cur, h2⟩, h3⟩ := hl g hg
  exact ⟨Nat.lt_of_lt_of_le h1 hk.size, ⟨cur, (hk.block g h1 (hM g hg)).trans h2⟩, fun j hj => rangeAt_keep (h3 j hj) hk h1 (hM g hg)⟩
theorem RowIs.low {K : Kd} (hK : K.Ok) {base : Nat} {w : World} {h : Hb} (hr : RowIs K base w h (marksG K h.n h.len)) : Low K w h := fun g hg => ⟨(RowG.ty hr hg).2.1, (RowG.ty hr hg).2.2, fun j hj => RowG.low hK hr hg j hj⟩
/-- The list with more behind it. -/
def Hb.grown (h : Hb) (A : Option Addr) (c : Nat) : Hb := ⟨h.A, h.len, h.cap, A, h.len + 40, c, h.n⟩
structure Grown (K : Kd) (base : Nat) (w0 w : World) (h h' : Hb) : Prop where
  is : ∃ A c, h' = h.grown A c
  row : RowG K.E K.q base w h'.long (h.len + 40) (marksG K h.n (h.len + 40))
  low : Low K w h
  blk : ∀ k, h'.long.ownBlock = some k → h.l.ownBlock = some k ∨ w0.heap.size ≤ k
theorem Grown.keep {K : Kd} {base : Nat} {w0 w w' : World} {h h' : Hb} {M : Nat → Prop} (g : Grown K base w0 w h h') (hk : Keeps M w w') (hl : ∀ k, h.l.ownBlock = some k → ¬ M k) (hv : ∀ k, h'.long.ownBlock = some k → ¬ M k) : Grown K base w0 w' h h' :=
  ⟨g.is, g.row.keep hk hv, g.low.keep hk hl, g.blk⟩
theorem Grown.below {K : Kd} {base : Nat} {w0 w w' : World} {h h' : Hb} (g : Grown K base w0 w h h') (hB : Below w.heap.size w w') : Grown K base w0 w' h h' :=
  g.keep (Keeps.of_below (M := fun _ => False) hB) (fun _ _ h => h) (fun _ _ h => h)
/-- What lies behind the Book's cell of a kind. -/
theorem BookAt.cellTy {base : Nat} {w : World} {B m : Nat} {H : Nat → List Hb} {k g n c : Nat} (hb : BookAt base w B m H) (h1 : 1 ≤ k) (h2 : k ≤ 15) (hc : w.cell? ⟨B, k, none⟩ = some (.slice (some ⟨g, 0, none⟩) n c)) :
    base ≤ g ∧ g < w.heap.size ∧ ∃ cur, w.heap[g]? = some (.cells cur (HT k) (0, 0)) := by
  obtain ⟨S, h3, h4, _⟩ := hb.box
  have h5 := h4 k h1 h2
  rw [h3.cell, bookV_at m S h1 h2] at hc
  injection hc with hc
  exact own_type h5 (by rw [hc]; rfl)
/-- What more there is, is noted in the Book. -/
theorem BookAt.note {base : Nat} {w : World} {B m : Nat} {H : Nat → List Hb} {h : Hb} {k j g n c : Nat} (hb : BookAt base w B m H) (h1 : 1 ≤ k) (h2 : k ≤ 15) (hj : (H k)[j]? = some h) (hc : w.cell? ⟨B, k, none⟩ = some (.slice (some ⟨g, 0, none⟩) n c)) (A : Option Addr) (cc : Nat) :
    BookAt base (w.setCell ⟨g, j * 3 + 1, none⟩ (.slice A (h.len + 40) cc)) B m (upd H k ((H k).set j (h.grown A cc))) := by
  obtain ⟨_, hgl, cur, hcur⟩ := hb.cellTy h1 h2 hc
  obtain ⟨S, h3, h4, h5⟩ := hb.box
  have h6 := h4 k h1 h2
  rw [h3.cell, bookV_at m S h1 h2] at hc
  injection hc with hc
  have hset : Keeps (· = g) w (w.setCell ⟨g, j * 3 + 1, none⟩ (.slice A (h.len + 40) cc)) := Keeps.set1 w ⟨g, j * 3 + 1, none⟩ _
  have hgB : B ≠ g := fun e => by
    subst e
    exact HT_book ⟨k, by omega⟩ h1 (ty_one hcur h3)
  refine ⟨⟨S, h3.keep hset hgB, fun k' hk1 hk2 => ?_, fun k' hk' => ?_⟩, hb.lo, fun k' hk1 hk2 => ?_, hb.most⟩
  · by_cases hkk : k' = k
    · subst hkk
      rw [upd_same, List.length_set]
      rw [hc] at h6 ⊢
      obtain ⟨A', c', e, _⟩ := own_slice h6
      injection e with _ e _
      subst e
      have hst := (h6.stored (j * 3 + 1) (.slice A (h.len + 40) cc)).1
      rwa [flatH_set (h' := h.grown A cc) (v := .slice A (h.len + 40) cc) hj rfl] at hst
    · rw [upd_ne _ _ hkk]
      refine hset.own (h4 k' hk1 hk2) (fun x hx e => ?_)
      subst e
      obtain ⟨_, _, cur', hc'⟩ := own_type (h4 k' hk1 hk2) hx
      exact HT_ne hk1 hk2 h1 h2 hkk (ty_one hc' hcur)
  · by_cases hkk : k' = k
    · subst hkk
      rw [upd_same] at hk'
      have := congrArg List.length hk'
      rw [List.length_set] at this
      exact h5 _ (List.eq_nil_of_length_eq_zero this)
    · rw [upd_ne _ _ hkk] at hk'
      exact h5 _ hk'
  · by_cases hkk : k' = k
    · subst hkk
      rw [upd_same, List.length_set]
      exact hb.few _ hk1 hk2
    · rw [upd_ne _ _ hkk]
      exact hb.few _ hk1 hk2
/-- What is looked at. -/
structure Seen (K : Kd) (base : Nat) (w : World) (h h' : Hb) : Prop where
  is : ∃ A c, h' = h.grown A c
  row : RowG K.E K.q base w h'.long (h.len + 40) (marksG K h.n (h.len + 40))
  low : Low K w h
  at0 : 0 < h.len → ∃ g, h.A = some ⟨g, 0, none⟩
  n : 1 ≤ h.n ∧ h.n ≤ 30000
  len : h.len ≤ 274877906944
theorem Seen.below {K : Kd} {base : Nat} {w w' : World} {h h' : Hb} (s : Seen K base w h h') (hB : Below w.heap.size w w') : Seen K base w' h h' :=
  ⟨s.is, s.row.below hB, s.low.keep (Keeps.of_below (M := fun _ => False) hB) (fun _ _ h => h), s.at0, s.n, s.len⟩
def zHb : List Value := [.slice none 0 0, .slice none 0 0, .int .i64 0]
end Go.Proofs.YtgecfcdafbedaaaGreatDoor
