/- The law SpotsPlay: what holds in the course of it: the set, the document's set, the Book. -/
import Derived.Test.YtgecfcdafbedaaaGreatDoorZRSpotsPlayUpto29
import Derived.Test.YtgecfcdafbedaaaGreatDoorZRSpotsPlayUpto33
import Derived.Test.YtgecfcdafbedaaaGreatDoorZRSpotsPlayUpto42
import Derived.Test.YtgecfcdafbedaaaGreatDoorZRSpotsPlayUpto43
namespace Go.Proofs.YtgecfcdafbedaaaGreatDoor
open Go.RowKit
set_option linter.unusedSimpArgs false
set_option linter.unusedVariables false

/-- How much acts are: three each, and their spots. -/
def gsum (xs : List Sa) : Nat := (xs.map fun x => 3 + x.n).sum
theorem gsum_next {xs : List Sa} {k : Nat} {x : Sa} (hx : xs[k]? = some x) : gsum (xs.take (k + 1)) = gsum (xs.take k) + 3 + x.n := by
  have h := (List.getElem?_eq_some_iff.1 hx).1
  rw [List.take_succ_eq_append_getElem h, (List.getElem?_eq_some_iff.1 hx).2]
  simp [gsum]; omega
theorem gsum_le (xs : List Sa) (k : Nat) : gsum (xs.take k) ≤ gsum xs := by
  have h : gsum xs = gsum (xs.take k) + gsum (xs.drop k) := by
    have := List.take_append_drop k xs
    unfold gsum
    rw [← List.sum_append, ← List.map_append, this]
  omega
theorem gsum_len (xs : List Sa) : 3 * xs.length ≤ gsum xs := by
  induction xs with
  | nil => simp [gsum]
  | cons x xs ih => simp only [gsum, List.map_cons, List.sum_cons, List.length_cons] at ih ⊢; omega
theorem gsum_mem {xs : List Sa} {x : Sa} (h : x ∈ xs) : x.n ≤ gsum xs := by
  induction xs with
  | nil => cases h
  | cons y xs ih =>
    simp only [gsum, List.map_cons, List.sum_cons] at ih ⊢
    rcases List.mem_cons.1 h with rfl | h
    · omega
    · have := ih h; omega
set_option maxHeartbeats 1000000 in
theorem greatB_any (A : Option Addr) (n c : Nat) (xs : List Sa) (w : World) (h : SActs w A n xs) (hn : gsum xs ≤ 4000000) :
    Calls Tryz.prog 4 #[.slice A n c] w fun e w' => e = .returned (.bool (decide (1500 < gsum xs))) ∧ w = w' := by
  have HG : Hid (∀ (k : Nat) (x : Sa), xs[k]? = some x → gsum (xs.take (k + 1)) = gsum (xs.take k) + 3 + x.n) := Lib.hid (fun k x hx => gsum_next hx)
  have HGL := Lib.hid (gsum_le xs)
  have hnl : n ≤ 4000000 := by have := gsum_len xs; have := h.len; omega
  have HL := Lib.hid h.len
  have HR : Hid (0 < n → ∃ b off, A = some ⟨b, off, none⟩ ∧ ∀ j, j < n → ∃ x, xs[j]? = some x ∧ w.cell? ⟨b, off + j * 36 + 1, none⟩ = some (.slice x.A x.n x.c)) := Lib.hid (fun h0 => by
    obtain ⟨b, off, e, _, hr⟩ := h.row h0
    refine ⟨b, off, e, fun j hj => ?_⟩
    obtain ⟨x, hx⟩ : ∃ x, xs[j]? = some x := ⟨_, List.getElem?_eq_getElem (by rw [h.len]; exact hj)⟩
    exact ⟨x, hx, (sa_at (hr j x hx) (h.ok x (List.mem_of_getElem? hx)).sum).2.1⟩)
  have HALL : Hid (gsum (xs.take n) = gsum xs) := Lib.hid (by rw [List.take_of_length_le (by have := h.len; omega)])
  obtain ⟨G, hG⟩ : ∃ G, gsum xs = G := ⟨_, rfl⟩
  rw [hG] at hn HGL HALL ⊢
  clear h hG
  go_enter Tryz.func4, Tryz.ntmps4
  go_wp2_with fail
  go_loop [3, 4] (fun s i => ∃ (k v : Nat), k ≤ n ∧ i = .int .i64 (k : Int) ∧ s = .int .i64 (v : Int) ∧ gsum (xs.take k) = v) (fun _ i => n - (intOf i).toNat)
  case atStart => exact ⟨0, 0, Nat.zero_le _, rfl, rfl, rfl⟩
  case round =>
    obtain ⟨k, v, hk, rfl, rfl, hv⟩ := hrel
    have hvl : v ≤ G := by rw [← hv]; exact HGL.out k
    by_cases hlt : k < n
    · obtain ⟨b, off, rfl, hr⟩ := HR.out (by omega)
      obtain ⟨x, hx, hc⟩ := hr k hlt
      have i0 : (0 : Int) ≤ (k : Int) := by omega
      have i1 : (k : Int) < (n : Int) := by omega
      have HNX : Hid (gsum (xs.take (k + 1)) = v + 3 + x.n) := Lib.hid (by rw [HG.out k x hx, hv])
      have hvn : v + 3 + x.n ≤ G := by rw [← HNX.out]; exact HGL.out (k + 1)
      obtain ⟨L, hL⟩ : ∃ L, x.n = L := ⟨_, rfl⟩
      rw [hL] at hc hvn HNX
      have w1 : IntKind.i64.wrap ((v : Int) + 3) = (v : Int) + 3 := IntWalk.i64_in _ (by omega)
      have w2 : IntKind.i64.wrap ((v : Int) + 3 + (L : Int)) = (v : Int) + 3 + (L : Int) := IntWalk.i64_in _ (by omega)
      clear hr hx hL hv
      go_wp2_with fail
      go_round
      case rel => exact ⟨k + 1, v + 3 + L, by omega, by go_num, by go_num, HNX.out⟩
      case measure => simp [intOf]; omega
    · obtain rfl : k = n := by omega
      rw [HALL.out] at hv
      subst hv
      by_cases hq : 1500 < G
      · have E1 := Lib.hid (decide_eq_true hq)
        have e2 : (1500 : Int) < (G : Int) := by omega
        clear hq
        go_wp2_with fail
        go_ret
        exact ⟨ret_bool E1.out.symm, rfl⟩
      · have E1 := Lib.hid (decide_eq_false hq)
        have e2 : ¬ ((1500 : Int) < (G : Int)) := by omega
        clear hq
        go_wp2_with fail
        go_ret
        exact ⟨ret_bool E1.out.symm, rfl⟩
theorem own_takeS {w : World} {base : Nat} {e : TypeId} {n m c : Nat} {A : Option Addr} {xs : List Value} (h : w.ownsRow base e 1 (.slice A n c) n xs) (hm : m ≤ n) : w.ownsRow base e 1 (.slice A m c) m (xs.take m) := by
  have hn := h.1
  refine ⟨by simp only [List.length_take]; omega, ?_⟩
  rcases h.2 with ⟨h1, h2⟩ | ⟨g, cap, cur, h1, h2, h3, h4, h5, h6, h7⟩
  · injection h1 with h1 h8 h9
    subst h1; subst h8; subst h9
    obtain rfl : m = 0 := by omega
    exact .inl ⟨rfl, by simp⟩
  · injection h1 with h1 _ h9
    subst h1; subst h9
    refine .inr ⟨g, _, cur, rfl, h2, h3, by omega, h5, h6, ?_⟩
    rw [← h7, List.take_take, Nat.mul_one, Nat.mul_one]
    congr 1; omega
/-- A Book that was told of spots alone. -/
def BkS (BK : Nat) (w : World) (m : Nat) (L7 : List Hb) : Prop := ∃ H, BookAt BK w BK m H ∧ H 7 = L7 ∧ ∀ k, k ≠ 7 → H k = []
theorem BkS.below {BK m : Nat} {w w' : World} {L7 : List Hb} (h : BkS BK w m L7) (hB : Below w.heap.size w w') : BkS BK w' m L7 := by
  obtain ⟨H, h1, h2⟩ := h
  exact ⟨H, h1.below hB, h2⟩
/-- A type of a set's own blocks: none of the others'. -/
structure Own4 (T : TypeId) : Prop where
  book : T ≠ 49
  held : ∀ k : Fin 16, 1 ≤ k.val → HT k.val ≠ T
  spot : T ≠ 23
/-- What holds in a round. -/
structure PlayAt (w0 wr : World) (p g : Nat) (L : List Spt) (cr : Int) (p' g' c' : Nat) (R : List Rs) (cs' : List Value) (cr' : Int) (BK m : Nat) (L7 : List Hb) : Prop where
  set : SetAt wr p g L cr
  rset : RSetAt wr p' g' c' R cs' cr'
  pb : w0.heap.size ≤ p
  gb : w0.heap.size ≤ g
  pb' : w0.heap.size ≤ p'
  gb' : w0.heap.size ≤ g'
  book : BkS BK wr m L7
  bkb : w0.heap.size ≤ BK
  rows : ∀ h ∈ L7, ∃ cs, RowIs kSpot w0.heap.size wr h cs
  fine : Fine L7
  bel : Below w0.heap.size w0 wr
section
variable {w0 wr w' : World} {p g : Nat} {L : List Spt} {cr : Int} {p' g' c' : Nat} {R : List Rs} {cs' : List Value} {cr' : Int} {BK m : Nat} {L7 : List Hb}
theorem PlayAt.below (h : PlayAt w0 wr p g L cr p' g' c' R cs' cr' BK m L7) (hB : Below wr.heap.size wr w') : PlayAt w0 w' p g L cr p' g' c' R cs' cr' BK m L7 :=
  ⟨h.set.below hB, h.rset.below hB, h.pb, h.gb, h.pb', h.gb', h.book.below hB, h.bkb, fun x hx => by
    obtain ⟨cs, hr⟩ := h.rows x hx
    exact ⟨cs, RowG.below hr hB⟩, h.fine, h.bel.trans (hB.mono h.bel.size)⟩
theorem PlayAt.bkl (h : PlayAt w0 wr p g L cr p' g' c' R cs' cr' BK m L7) : BK < wr.heap.size := by
  obtain ⟨H, h1, _⟩ := h.book
  exact h1.lt
theorem BkS.keep4 {T : TypeId} {cs : List Value} {q : Nat} (h : BkS BK wr m L7) (hk : Keeps (fun i => i = q) wr w') (hq : Blk wr q T cs) (hT : Own4 T) : BkS BK w' m L7 := by
  obtain ⟨H, h1, h2⟩ := h
  refine ⟨H, h1.keep hk (fun e => ?_) (fun i cur k hk1 hk2 hc e => ?_), h2⟩
  · obtain ⟨S, hB, _⟩ := h1.box
    rw [← e] at hq
    exact blk_ne hq hB hT.book rfl
  · subst e
    have hc' : Blk wr i (HT k) cur.toList := by unfold Blk; rw [hc]
    exact blk_ne hq hc' (fun h => hT.held ⟨k, by omega⟩ hk1 h.symm) rfl
theorem rows_keep4 {T : TypeId} {cs : List Value} {q base : Nat} (h : ∀ h ∈ L7, ∃ cs, RowIs kSpot base wr h cs) (hk : Keeps (fun i => i = q) wr w') (hq : Blk wr q T cs) (hT : Own4 T) : ∀ h ∈ L7, ∃ cs, RowIs kSpot base w' h cs := fun x hx => by
  obtain ⟨ds, hr⟩ := h x hx
  refine ⟨ds, RowG.keep hr hk (fun k hk2 e => ?_)⟩
  obtain ⟨_, _, cur, hc⟩ := RowG.ty hr hk2
  subst e
  have hc' : Blk wr k kSpot.E cur.toList := by unfold Blk; rw [hc]
  exact blk_ne hq hc' hT.spot rfl
theorem own4_spt : Own4 74 := ⟨by decide, by decide, by decide⟩
theorem own4_set : Own4 77 := ⟨by decide, by decide, by decide⟩
theorem own4_rspt : Own4 79 := ⟨by decide, by decide, by decide⟩
theorem own4_rset : Own4 82 := ⟨by decide, by decide, by decide⟩
/-- The set turned. -/
theorem PlayAt.setG (h : PlayAt w0 wr p g L cr p' g' c' R cs' cr' BK m L7) {L2 : List Spt} (hS : SetAt w' p g L2 cr) (hk : Keeps (fun i => i = g) wr w') : PlayAt w0 w' p g L2 cr p' g' c' R cs' cr' BK m L7 :=
  ⟨hS, h.rset.keep hk (fun e => blk_ne h.rset.set h.set.row (by decide) e) (fun e => blk_ne h.rset.row h.set.row (by decide) e), h.pb, h.gb, h.pb', h.gb', h.book.keep4 hk h.set.row own4_spt, h.bkb, rows_keep4 h.rows hk h.set.row own4_spt, h.fine, below_keeps h.bel hk (Nat.le_refl _) (fun i hi => by rw [hi]; exact h.gb)⟩
theorem PlayAt.setP (h : PlayAt w0 wr p g L cr p' g' c' R cs' cr' BK m L7) {L2 : List Spt} {g2 : Nat} {cr2 : Int} (hS : SetAt w' p g2 L2 cr2) (hg : w0.heap.size ≤ g2) (hk : Keeps (fun i => i = p) wr w') : PlayAt w0 w' p g2 L2 cr2 p' g' c' R cs' cr' BK m L7 :=
  ⟨hS, h.rset.keep hk (fun e => blk_ne h.rset.set h.set.set (by decide) e) (fun e => blk_ne h.rset.row h.set.set (by decide) e), h.pb, hg, h.pb', h.gb', h.book.keep4 hk h.set.set own4_set, h.bkb, rows_keep4 h.rows hk h.set.set own4_set, h.fine, below_keeps h.bel hk (Nat.le_refl _) (fun i hi => by rw [hi]; exact h.pb)⟩
theorem PlayAt.rsetG (h : PlayAt w0 wr p g L cr p' g' c' R cs' cr' BK m L7) {R2 : List Rs} (hS : RSetAt w' p' g' c' R2 cs' cr') (hk : Keeps (fun i => i = g') wr w') : PlayAt w0 w' p g L cr p' g' c' R2 cs' cr' BK m L7 :=
  ⟨h.set.keep hk (fun e => blk_ne h.set.set h.rset.row (by decide) e) (fun e => blk_ne h.set.row h.rset.row (by decide) e) (fun s hs q hq e => blk_ne (h.set.sum s hs q hq).1 h.rset.row (by decide) e), hS, h.pb, h.gb, h.pb', h.gb', h.book.keep4 hk h.rset.row own4_rspt, h.bkb, rows_keep4 h.rows hk h.rset.row own4_rspt, h.fine, below_keeps h.bel hk (Nat.le_refl _) (fun i hi => by rw [hi]; exact h.gb')⟩
theorem PlayAt.rsetP (h : PlayAt w0 wr p g L cr p' g' c' R cs' cr' BK m L7) {R2 : List Rs} {g2 c2 : Nat} {cs2 : List Value} {cr2 : Int} (hS : RSetAt w' p' g2 c2 R2 cs2 cr2) (hg : w0.heap.size ≤ g2) (hk : Keeps (fun i => i = p') wr w') : PlayAt w0 w' p g L cr p' g2 c2 R2 cs2 cr2 BK m L7 :=
  ⟨h.set.keep hk (fun e => blk_ne h.set.set h.rset.set (by decide) e) (fun e => blk_ne h.set.row h.rset.set (by decide) e) (fun s hs q hq e => blk_ne (h.set.sum s hs q hq).1 h.rset.set (by decide) e), hS, h.pb, h.gb, h.pb', hg, h.book.keep4 hk h.rset.set own4_rset, h.bkb, rows_keep4 h.rows hk h.rset.set own4_rset, h.fine, below_keeps h.bel hk (Nat.le_refl _) (fun i hi => by rw [hi]; exact h.pb')⟩
theorem byBook_ne {T : TypeId} {cs : List Value} {q : Nat} (hq : Blk wr q T cs) (hB : BK < wr.heap.size) (h1 : ∃ ds, Blk wr BK 49 ds) (hT : T ≠ 49 ∧ T ≠ 102) : ¬ ByBook BK BK 102 wr q := by
  rintro (rfl | ⟨_, cur, hc⟩ | h)
  · obtain ⟨ds, h1⟩ := h1
    exact blk_ne hq h1 hT.1 rfl
  · have hc' : Blk wr q 102 cur.toList := by unfold Blk; rw [hc]
    exact blk_ne hq hc' hT.2 rfl
  · have := hq.lt; omega
/-- The Book is told of a list. -/
theorem note_at (h : PlayAt w0 wr p g L cr p' g' c' R cs' cr' BK m L7) {A : Option Addr} {n c : Nat} {cs : List Value} (hr : RowG 23 1 w0.heap.size wr (.slice A n c) n cs) (hnew : ∀ h ∈ L7, ∀ k, h.l.ownBlock = some k → (Value.slice A n c).ownBlock ≠ some k) (hn : n ≤ 274877906944) (hm : m < 29999) :
    Calls Tryz.prog 19 #[.pointer (some ⟨BK, 0, none⟩), .slice A n c] wr fun e w' => e = .returned (.tuple #[]) ∧ PlayAt w0 w' p g L cr p' g' c' R cs' cr' BK (m + 1) (L7 ++ [⟨A, n, c, none, 0, 0, m + 1⟩]) ∧ Keeps (ByBook BK BK 102 wr) wr w' := by
  obtain ⟨H, h1, h2, h3⟩ := h.book
  have hbl := h1.lt
  obtain ⟨S, hBox, _⟩ := h1.box
  have hB : ∃ ds, Blk wr BK 49 ds := ⟨_, hBox⟩
  refine (bspots_bk BK BK m H A n c wr h1 (by omega) (by omega)).mono fun e w' ⟨he, h4, hk⟩ => ⟨he, ?_, hk⟩
  have hrow : ∀ (x : Hb), (∃ cs, RowIs kSpot w0.heap.size wr x cs) → ∃ cs, RowIs kSpot w0.heap.size w' x cs := fun x ⟨ds, hx⟩ =>
    ⟨ds, RowG.keepBook (k := 7) hx okSpot.far (by omega) (by omega) h1 hk⟩
  refine ⟨h.set.keep hk (byBook_ne h.set.set hbl hB (by decide)) (byBook_ne h.set.row hbl hB (by decide)) (fun s hs q hq => byBook_ne (h.set.sum s hs q hq).1 hbl hB (by decide)), h.rset.keep hk (byBook_ne h.rset.set hbl hB (by decide)) (byBook_ne h.rset.row hbl hB (by decide)), h.pb, h.gb, h.pb', h.gb', ⟨_, h4, by rw [upd_same, h2], fun k hk7 => by rw [upd_ne _ _ hk7]; exact h3 k hk7⟩, h.bkb, fun x hx => ?_, ?_, below_keeps h.bel hk (Nat.le_refl _) (fun i hi => ?_)⟩
  · rcases List.mem_append.1 hx with hx | hx
    · exact hrow x (h.rows x hx)
    · rw [List.mem_singleton] at hx
      subst hx
      exact hrow _ ⟨cs, hr⟩
  · refine fine_append h.fine (fine_one ⟨by simp, by simp; omega⟩ hn) (fun a ha b hb k hka hkb => ?_)
    rw [List.mem_singleton] at hb
    subst hb
    exact hnew a ha k hka hkb
  · exact Nat.le_trans h.bkb (hi.lo (Nat.le_refl _) (by omega))
theorem apart_at (h : PlayAt w0 wr p g L cr p' g' c' R cs' cr' BK m L7) : Calls Tryz.prog 27 #[.pointer (some ⟨BK, 0, none⟩)] wr fun e w' => e = .returned (.bool true) ∧ Below w0.heap.size w0 w' := by
  obtain ⟨H, h1, h2, h3⟩ := h.book
  refine (apart_bk w0.heap.size BK m H wr (h1.lower h.bkb) (fun k _ k7 _ => h3 k k7) (KHolds.start (fun i x hi => ?_) ?_) (KHolds.start (fun i x hi => ?_) ?_) (KHolds.start (fun i x hi => ?_) ?_) h.bel.size).mono fun e w' ⟨he, hk⟩ => ⟨he, below_keeps h.bel hk (Nat.le_refl _) (fun i hi => hi)⟩
  · have e1 : H 1 = [] := h3 1 (by omega)
    have hi' : (H 1)[i]? = some x := hi
    rw [e1] at hi'; simp at hi'
  · show Fine (H 1); rw [h3 1 (by omega)]; exact fine_nil
  · have hi' : (H 7)[i]? = some x := hi
    rw [h2] at hi'
    exact h.rows x (List.mem_of_getElem? hi')
  · show Fine (H 7); rw [h2]; exact h.fine
  · have hi' : (H 10)[i]? = some x := hi
    rw [h3 10 (by omega)] at hi'; simp at hi'
  · show Fine (H 10); rw [h3 10 (by omega)]; exact fine_nil
end
end Go.Proofs.YtgecfcdafbedaaaGreatDoor
