/- The walk over the document's Get of a number; Pieces as bytes, and back: plain laws on lists; The walks over packets.may, params.may, params.filled; pieces in memory. -/
import Derived.Test.YtjikjdignhdipaaGreatDoorYRPacketsGet3
import Derived.Test.YtjikjdignhdipaaGreatDoorYRPacketsGet4
import Derived.Test.YtjikjdignhdipaaGreatDoorYRPacketsGet1
namespace Go.Proofs.YtjikjdignhdipaaGreatDoor
open Go.RowKit
set_option linter.unusedSimpArgs false
set_option linter.unusedVariables false

theorem drawn_below {w w' : World} (h : Drawn w w') : Below w.heap.size w w' := below_drawn (Below.refl _ _) h

set_option maxRecDepth 100000 in
set_option maxHeartbeats 1000000 in
theorem refget_any (A0 : Option Addr) (n0 c0 : Nat) (bs : List Int) (k : Int) (w : World) (r0 : Rd w .u8 A0 n0 bs) (l0 : n0 ≤ c0) :
    Calls Tryz.prog 87 #[.slice A0 n0 c0, .int .i64 k] w fun e w' => e = .returned (.tuple #[.int .u64 (getN bs n0 k), .int .i64 (getE n0 k)]) ∧ Below w.heap.size w w' := by
  have hbig := r0.big
  by_cases k0 : k < 0
  · have e1 : getE n0 k = 1 := by unfold getE; rw [if_pos (.inl k0)]
    have e2 : getN bs n0 k = 0 := by unfold getN; rw [e1]; rfl
    rw [e1, e2]
    clear e1 e2
    go_enter Tryz.func87, Tryz.ntmps87
    go_wp2_with fail
    go_ret2
    exact ⟨rfl, Below.refl _ _⟩
  by_cases k8 : 8 < k
  · have e1 : getE n0 k = 1 := by unfold getE; rw [if_pos (.inr k8)]
    have e2 : getN bs n0 k = 0 := by unfold getN; rw [e1]; rfl
    rw [e1, e2]
    clear e1 e2
    go_enter Tryz.func87, Tryz.ntmps87
    go_wp2_with fail
    go_ret2
    exact ⟨rfl, Below.refl _ _⟩
  obtain ⟨m, rfl⟩ := Int.eq_ofNat_of_zero_le (show 0 ≤ k by omega)
  by_cases ks : n0 < m
  · have e1 : getE n0 (m : Int) = 5 := by unfold getE; rw [if_neg (by omega), if_pos (by omega)]
    have e2 : getN bs n0 (m : Int) = 0 := by unfold getN; rw [e1]; rfl
    rw [e1, e2]
    clear e1 e2
    go_enter Tryz.func87, Tryz.ntmps87
    go_wp2_with fail
    go_ret2
    exact ⟨rfl, Below.refl _ _⟩
  · have e1 : getE n0 (m : Int) = 0 := by unfold getE; rw [if_neg (by omega), if_neg (by omega)]
    have e2 : getN bs n0 (m : Int) = told (bs.take m) := by unfold getN; rw [e1]; simp
    rw [e1, e2]
    clear e1 e2
    have hsl : ∀ W : World, (Instr.slice 31 (.slice A0 n0 c0) none (some (.int .i64 (m : Int))) none).run Tryz.prog W = .ok (.slice A0 m c0) W := fun W => slice_to W _ n0 c0 m (by omega)
    have HT := Lib.hid (told_any m A0 c0 (bs.take m) w (by omega) (r0.cut m (by omega)) (by omega))
    go_enter Tryz.func87, Tryz.ntmps87
    go_wp2_with fail
    refine HT.out.mono ?_; rintro e w1 ⟨rfl, hD⟩
    go_wp2_with fail
    go_ret2
    exact ⟨rfl, drawn_below hD⟩

end Go.Proofs.YtjikjdignhdipaaGreatDoor

namespace Go.Proofs.YtjikjdignhdipaaGreatDoor
set_option linter.unusedSimpArgs false
set_option linter.unusedVariables false

/-- Up to a multiple of 8. -/
def fill8 (n : Nat) : Nat := (n + 7) / 8 * 8
/-- A piece: its type, and its body. -/
abbrev Piece := Int × List Int
def pieceB (p : Piece) : List Int := be p.1 2 ++ be p.2.length 2 ++ p.2 ++ List.replicate (fill8 (4 + p.2.length) - (4 + p.2.length)) 0
def pieces : List Piece → List Int
  | [] => []
  | p :: l => pieceB p ++ pieces l
/-- The types rise. -/
def rises : Int → List Piece → Bool
  | _, [] => true
  | last, p :: l => decide (last < p.1) && rises p.1 l
/-- What Put answers. -/
def putE (l : List Piece) : Int :=
  if rises 0 l = false then 1 else if 16 < l.length then 3 else if l.any (fun p => decide (2048 < p.2.length)) then 3 else if 2048 < (pieces l).length then 3 else 0
/-- What Get answers, from some bytes on. -/
def getGo : Nat → Int → List Piece → List Int → Int × List Piece
  | 0, _, _, _ => (4, [])
  | f + 1, last, out, b =>
    if b.length = 0 then (0, out) else if b.length < 4 then (5, [])
    else if b.length < fill8 (4 + (told ((b.drop 2).take 2)).toNat) then (5, [])
    else if told (b.take 2) ≤ last then (4, [])
    else if ((b.drop (4 + (told ((b.drop 2).take 2)).toNat)).take (fill8 (4 + (told ((b.drop 2).take 2)).toNat) - (4 + (told ((b.drop 2).take 2)).toNat))).any (fun x => decide (x ≠ 0)) then (4, [])
    else if 16 ≤ out.length then (3, [])
    else getGo f (told (b.take 2)) (out ++ [(told (b.take 2), (b.drop 4).take (told ((b.drop 2).take 2)).toNat)]) (b.drop (fill8 (4 + (told ((b.drop 2).take 2)).toNat)))
def paGet (b : List Int) : Int × List Piece := if 2048 < b.length then (3, []) else getGo (b.length + 1) 0 [] b
/-- A piece that can be: a type, and bytes. -/
def okPiece (p : Piece) : Prop := 0 ≤ p.1 ∧ p.1 ≤ 65535 ∧ ∀ x ∈ p.2, 0 ≤ x ∧ x ≤ 255

theorem fill8_ge (n : Nat) : n ≤ fill8 n ∧ fill8 n < n + 8 ∧ fill8 n % 8 = 0 := by unfold fill8; omega
theorem pieceB_length (p : Piece) : (pieceB p).length = fill8 (4 + p.2.length) := by
  have := fill8_ge (4 + p.2.length)
  simp only [pieceB, List.length_append, be_length, List.length_replicate]; omega
theorem pieces_append (l m : List Piece) : pieces (l ++ m) = pieces l ++ pieces m := by
  induction l with
  | nil => rfl
  | cons p l ih => simp only [List.cons_append, pieces, ih, List.append_assoc]
theorem pieces_mod (l : List Piece) : (pieces l).length % 8 = 0 := by
  induction l with
  | nil => rfl
  | cons p l ih => rw [pieces, List.length_append, pieceB_length]; have := fill8_ge (4 + p.2.length); omega
theorem pieces_byte : ∀ (l : List Piece), (∀ p ∈ l, okPiece p) → ∀ x ∈ pieces l, 0 ≤ x ∧ x ≤ 255
  | [], _, x, hx => by simp [pieces] at hx
  | p :: l, h, x, hx => by
    rw [pieces, List.mem_append] at hx
    rcases hx with hx | hx
    · simp only [pieceB, List.mem_append, List.mem_replicate] at hx
      rcases hx with ((hx | hx) | hx) | hx
      · exact be_byte _ _ x hx
      · exact be_byte _ _ x hx
      · exact (h p (by simp)).2.2 x hx
      · obtain ⟨_, rfl⟩ := hx; omega
    · exact pieces_byte l (fun q hq => h q (by simp [hq])) x hx
/-- The head of a piece's bytes. -/
theorem pieceB_parts (p : Piece) (m : List Int) (h : okPiece p) (hn : p.2.length < 65536) :
    told ((pieceB p ++ m).take 2) = p.1 ∧ (told (((pieceB p ++ m).drop 2).take 2)).toNat = p.2.length ∧ ((pieceB p ++ m).drop 4).take p.2.length = p.2 ∧
    ((pieceB p ++ m).drop (4 + p.2.length)).take (fill8 (4 + p.2.length) - (4 + p.2.length)) = List.replicate (fill8 (4 + p.2.length) - (4 + p.2.length)) 0 ∧ (pieceB p ++ m).drop (fill8 (4 + p.2.length)) = m := by
  obtain ⟨t, l⟩ := p
  simp only [pieceB] at *
  have e1 : (be t 2).length = 2 := be_length 2 t
  have e2 : (be (l.length : Int) 2).length = 2 := be_length 2 _
  have t1 : told (be t 2) = t := told_be 2 t h.1 (by have := h.2.1; simp [pow256]; omega)
  have t2 : told (be (l.length : Int) 2) = l.length := told_be 2 _ (by omega) (by simp [pow256]; omega)
  generalize be t 2 = x at *
  generalize be (l.length : Int) 2 = y at *
  have hf := fill8_ge (4 + l.length)
  generalize fill8 (4 + l.length) = F at *
  refine ⟨?_, ?_, ?_, ?_, ?_⟩
  · rw [List.append_assoc, List.append_assoc, List.append_assoc, List.take_append_of_le_length (by omega), List.take_of_length_le (by omega), t1]
  · rw [List.append_assoc, List.append_assoc, List.append_assoc, List.drop_append_of_le_length (by omega), List.drop_of_length_le (by omega), List.nil_append, List.take_append_of_le_length (by omega), List.take_of_length_le (by omega), t2]; omega
  · rw [List.append_assoc, List.append_assoc, List.drop_append_of_le_length (by simp; omega), List.drop_of_length_le (by simp; omega), List.nil_append, List.take_append_of_le_length (by omega), List.take_of_length_le (by omega)]
  · rw [List.append_assoc, List.drop_append_of_le_length (by simp; omega), List.drop_of_length_le (by simp; omega), List.nil_append, List.take_append_of_le_length (by simp), List.take_of_length_le (by simp)]
  · rw [List.drop_append_of_le_length (by simp; omega), List.drop_of_length_le (by simp; omega), List.nil_append]

/-- What is put is got. -/
theorem getGo_pieces : ∀ (l : List Piece) (f : Nat) (last : Int) (out : List Piece), (∀ p ∈ l, okPiece p) → (∀ p ∈ l, p.2.length ≤ 2048) → rises last l = true → out.length + l.length ≤ 16 → (pieces l).length < f → getGo f last out (pieces l) = (0, out ++ l)
  | [], f, last, out, _, _, _, _, hf => by
    obtain ⟨f, rfl⟩ : ∃ g, f = g + 1 := ⟨f - 1, by omega⟩
    simp [getGo, pieces]
  | p :: l, f, last, out, hk, hb, hr, ho, hf => by
    obtain ⟨f, rfl⟩ : ∃ g, f = g + 1 := ⟨f - 1, by omega⟩
    have hp := hb p (by simp)
    obtain ⟨e1, e2, e3, e4, e5⟩ := pieceB_parts p (pieces l) (hk p (by simp)) (by omega)
    have hF := fill8_ge (4 + p.2.length)
    have hl : (pieceB p ++ pieces l).length = fill8 (4 + p.2.length) + (pieces l).length := by rw [List.length_append, pieceB_length]
    rw [pieces, hl] at hf
    simp only [rises, Bool.and_eq_true, decide_eq_true_eq] at hr
    rw [pieces, getGo, e1, e2, e3, e4, e5, hl]
    rw [if_neg (by omega), if_neg (by omega), if_neg (by omega), if_neg (by omega), if_neg (by simp [List.any_replicate]), if_neg (by simp at ho; omega)]
    rw [getGo_pieces l f p.1 _ (fun q hq => hk q (by simp [hq])) (fun q hq => hb q (by simp [hq])) hr.2 (by simp at ho ⊢; omega) (by omega)]
    simp
/-- What is got is what is put. -/
theorem getGo_back : ∀ (f : Nat) (last : Int) (out r : List Piece) (b : List Int), (∀ x ∈ b, 0 ≤ x ∧ x ≤ 255) → getGo f last out b = (0, r) →
    ∃ l, r = out ++ l ∧ pieces l = b ∧ rises last l = true ∧ (l ≠ [] → r.length ≤ 16) ∧ (∀ p ∈ l, okPiece p ∧ p.2.length ≤ b.length)
  | 0, last, out, r, b, _, h => by simp [getGo] at h
  | f + 1, last, out, r, b, hb, h => by
    rw [getGo] at h
    split at h
    · rename_i h0
      injection h with _ h; subst h
      exact ⟨[], by simp, by rw [List.eq_nil_of_length_eq_zero h0]; rfl, rfl, by simp, by simp⟩
    · split at h
      · cases h
      · split at h
        · cases h
        · split at h
          · cases h
          · split at h
            · cases h
            · split at h
              · cases h
              · rename_i h0 h4 hF ht hz ho
                obtain ⟨n, hn⟩ : ∃ n, (told ((b.drop 2).take 2)).toNat = n := ⟨_, rfl⟩
                rw [hn] at h hF hz
                have hfb := fill8_ge (4 + n)
                have hd : ∀ x ∈ b.drop (fill8 (4 + n)), 0 ≤ x ∧ x ≤ 255 := fun x hx => hb x (List.mem_of_mem_drop hx)
                obtain ⟨l, e1, e2, e3, e4, e5⟩ := getGo_back f _ _ _ _ hd h
                have hF0 : (b.drop 4).length = b.length - 4 := by simp
                have hlen : ((b.drop 4).take n).length = n := by rw [List.length_take, hF0]; omega
                have htb : ∀ x ∈ b.take 2, 0 ≤ x ∧ x ≤ 255 := fun x hx => hb x (List.mem_of_mem_take hx)
                have hnb : ∀ x ∈ (b.drop 2).take 2, 0 ≤ x ∧ x ≤ 255 := fun x hx => hb x (List.mem_of_mem_drop (List.mem_of_mem_take hx))
                have hT := told_bounds _ htb
                have hN := told_bounds _ hnb
                have hl1 : (b.take 2).length = 2 := by rw [List.length_take]; omega
                have hl2 : ((b.drop 2).take 2).length = 2 := by rw [List.length_take, List.length_drop]; omega
                have hb1 : be (told (b.take 2)) 2 = b.take 2 := by have := be_told _ htb; rwa [hl1] at this
                have hb2 : be ((n : Nat) : Int) 2 = (b.drop 2).take 2 := by
                  have := be_told _ hnb
                  rw [hl2] at this
                  rw [← hn, Int.toNat_of_nonneg hN.1]; exact this
                have hz' : (b.drop (4 + n)).take (fill8 (4 + n) - (4 + n)) = List.replicate (fill8 (4 + n) - (4 + n)) 0 := by
                  refine List.eq_replicate_iff.2 ⟨by rw [List.length_take, List.length_drop]; omega, fun x hx => ?_⟩
                  have hz2 : ((b.drop (4 + n)).take (fill8 (4 + n) - (4 + n))).any (fun x => decide (x ≠ 0)) = false := by simpa using hz
                  rw [List.any_eq_false] at hz2
                  have := hz2 x hx
                  simpa using this
                have hx : pieceB (told (b.take 2), (b.drop 4).take n) ++ b.drop (fill8 (4 + n)) = b := by
                  simp only [pieceB]
                  rw [hlen, hb1, hb2, ← hz']
                  have a1 : (b.drop (4 + n)).take (fill8 (4 + n) - (4 + n)) ++ b.drop (fill8 (4 + n)) = b.drop (4 + n) := by
                    have := List.take_append_drop (fill8 (4 + n) - (4 + n)) (b.drop (4 + n))
                    rwa [List.drop_drop, show 4 + n + (fill8 (4 + n) - (4 + n)) = fill8 (4 + n) by omega] at this
                  have a2 : (b.drop 4).take n ++ b.drop (4 + n) = b.drop 4 := by
                    have := List.take_append_drop n (b.drop 4)
                    rwa [List.drop_drop] at this
                  have a3 : (b.drop 2).take 2 ++ b.drop 4 = b.drop 2 := by
                    have := List.take_append_drop 2 (b.drop 2)
                    rwa [List.drop_drop] at this
                  rw [List.append_assoc, a1, List.append_assoc, a2, List.append_assoc, a3]
                  exact List.take_append_drop 2 b
                refine ⟨(told (b.take 2), (b.drop 4).take n) :: l, ?_, ?_, ?_, ?_, ?_⟩
                · rw [e1, List.append_assoc]; rfl
                · rw [pieces, e2]; exact hx
                · simp only [rises, Bool.and_eq_true, decide_eq_true_eq]; exact ⟨by omega, e3⟩
                · intro _
                  by_cases hl : l = []
                  · subst hl; rw [e1]; simp; omega
                  · exact e4 hl
                · intro p hp
                  rcases List.mem_cons.1 hp with rfl | hp
                  · refine ⟨⟨hT.1, ?_, fun x hx => hb x (List.mem_of_mem_drop (List.mem_of_mem_take hx))⟩, ?_⟩
                    · have := hT.2; rw [hl1] at this; simp [pow256] at this; simp only; omega
                    · simp only; rw [hlen]; omega
                  · have := e5 p hp
                    rw [List.length_drop] at this
                    exact ⟨this.1, by omega⟩
/-- Get of what Put makes. -/
theorem paGet_put {l : List Piece} (hk : ∀ p ∈ l, okPiece p) (h : putE l = 0) : paGet (pieces l) = (0, l) := by
  unfold putE at h
  split at h
  · cases h
  · split at h
    · cases h
    · split at h
      · cases h
      · split at h
        · cases h
        · rename_i h1 h2 h3 h4
          rw [paGet, if_neg h4]
          have := getGo_pieces l ((pieces l).length + 1) 0 [] hk (fun p hp => by
            have h5 : l.any (fun p => decide (2048 < p.2.length)) = false := by simpa using h3
            rw [List.any_eq_false] at h5
            have := h5 p hp
            simp at this; omega) (by simpa using h1) (by simp; omega) (by omega)
          simpa using this
/-- Put of what Get tells. -/
theorem paPut_get {l : List Piece} {b : List Int} (hb : ∀ x ∈ b, 0 ≤ x ∧ x ≤ 255) (h : paGet b = (0, l)) : putE l = 0 ∧ pieces l = b ∧ ∀ p ∈ l, okPiece p := by
  unfold paGet at h
  split at h
  · cases h
  · rename_i hlen
    obtain ⟨m, e1, e2, e3, e4, e5⟩ := getGo_back _ _ _ _ _ hb h
    rw [List.nil_append] at e1
    subst e1
    refine ⟨?_, e2, fun p hp => (e5 p hp).1⟩
    unfold putE
    rw [e2, e3, if_neg (by simp), if_neg ?_, if_neg ?_, if_neg hlen]
    · rw [List.any_eq_true]
      rintro ⟨p, hp, h5⟩
      have := (e5 p hp).2
      simp at h5; omega
    · by_cases hl : l = []
      · subst hl; simp
      · have := e4 hl; omega
end Go.Proofs.YtjikjdignhdipaaGreatDoor

namespace Go.Proofs.YtjikjdignhdipaaGreatDoor
open Go.RowKit
set_option linter.unusedSimpArgs false
set_option linter.unusedVariables false

theorem filled_any (n : Nat) (w : World) (h : n ≤ 140737488351232) : Calls Tryz.prog 93 #[.int .i64 n] w fun e w' => e = .returned (.int .i64 (fill8 n)) ∧ w = w' := by
  have e1 : IntKind.i64.wrap ((n : Int) + 8) = (n : Int) + 8 := IntWalk.i64_in _ (by omega)
  have e2 : IntKind.i64.wrap ((n : Int) + 8 - 1) = (n : Int) + 8 - 1 := IntWalk.i64_in _ (by omega)
  go_enter Tryz.func93, Tryz.ntmps93
  go_wp2_with fail
  go_ret
  exact ⟨ret_int (by unfold fill8; omega), rfl⟩

/-- A list of pieces in memory. -/
structure Ps (w : World) (A : Option Addr) (n : Nat) (ps : List Piece) : Prop where
  len : ps.length = n
  big : n ≤ 4398046510976
  row : 0 < n → ∃ b off, A = some ⟨b, off, none⟩ ∧ b < w.heap.size ∧ ∀ j, j < n → ∃ t body B m c, ps[j]? = some (t, body) ∧ (0 ≤ t ∧ t ≤ 65535) ∧ w.cell? ⟨b, off + j * 2, none⟩ = some (.int .u16 t) ∧ w.cell? ⟨b, off + j * 2 + 1, none⟩ = some (.slice B m c) ∧ Rd w .u8 B m body ∧ m ≤ c ∧ (B = none → c = 0)
theorem Ps.below {w w' : World} {A : Option Addr} {n : Nat} {ps : List Piece} (h : Ps w A n ps) (hB : Below w.heap.size w w') : Ps w' A n ps :=
  ⟨h.len, h.big, fun h0 => by
    obtain ⟨b, off, e, hb, hc⟩ := h.row h0
    refine ⟨b, off, e, Nat.lt_of_lt_of_le hb hB.size, fun j hj => ?_⟩
    obtain ⟨t, body, B, m, c, h1, h2, h3, h4, h5, h6, h7⟩ := hc j hj
    exact ⟨t, body, B, m, c, h1, h2, (hB.cell (p := ⟨b, off + j * 2, none⟩) hb).trans h3, (hB.cell (p := ⟨b, off + j * 2 + 1, none⟩) hb).trans h4, h5.below hB, h6, h7⟩⟩
theorem ps_nil (w : World) : Ps w none 0 [] := ⟨rfl, by omega, fun h => absurd h (by omega)⟩
/-- The type of the last piece of a beginning. -/
def lastT (ps : List Piece) (k : Nat) : Int := if k = 0 then 0 else ((ps[k - 1]?).map (·.1)).getD 0
theorem rises_take : ∀ (ps : List Piece) (last : Int) (k : Nat), k < ps.length → rises last (ps.take k) = true → ∀ p, ps[k]? = some p → rises last (ps.take (k + 1)) = decide ((if k = 0 then last else ((ps[k - 1]?).map (·.1)).getD 0) < p.1)
  | [], _, k, h, _, _, _ => by simp at h
  | q :: ps, last, 0, _, _, p, hp => by
    simp at hp; subst hp; simp [rises]
  | q :: ps, last, k + 1, h, hr, p, hp => by
    simp only [List.take_succ_cons, rises, Bool.and_eq_true, decide_eq_true_eq] at hr ⊢
    have := rises_take ps q.1 k (by simpa using h) hr.2 p (by simpa using hp)
    rw [this, decide_eq_true hr.1, Bool.true_and]
    cases k with
    | zero => simp
    | succ k => simp
theorem rises_more : ∀ (ps : List Piece) (last : Int) (k : Nat), rises last (ps.take k) = false → rises last ps = false
  | [], _, k, h => by simp [rises] at h
  | q :: ps, last, 0, h => by simp [rises] at h
  | q :: ps, last, k + 1, h => by
    simp only [List.take_succ_cons, rises, Bool.and_eq_false_iff] at h ⊢
    rcases h with h | h
    · exact .inl h
    · exact .inr (rises_more ps q.1 k h)

set_option maxRecDepth 100000 in
set_option maxHeartbeats 1000000 in
theorem pamay_any (A0 : Option Addr) (n0 c0 : Nat) (ps : List Piece) (w : World) (h : Ps w A0 n0 ps) :
    Calls Tryz.prog 92 #[.slice A0 n0 c0] w fun e w' => e = .returned (.bool (rises 0 ps)) ∧ Below w.heap.size w w' := by
  have hbig := h.big
  have hl := h.len
  go_enter Tryz.func92, Tryz.ntmps92
  go_wp2_with fail
  go_loopw [3, 8] (fun t i wr => ∃ k : Nat, k ≤ n0 ∧ i = .int .i64 k ∧ rises 0 (ps.take k) = true ∧ t = .int .u16 (if k = 0 then 0 else ((ps[k - 1]?).map (·.1)).getD 0) ∧ Below w.heap.size w wr) (fun _ i _ => n0 - (intOf i).toNat)
  case atStart => exact ⟨0, Nat.zero_le _, rfl, by simp [rises], rfl, Below.refl _ _⟩
  case round =>
    obtain ⟨k, hk, rfl, hr, rfl, hB⟩ := hrel
    by_cases hlt : k < n0
    · obtain ⟨b, off, rfl, _, hc⟩ := (h.below hB).row (by omega)
      obtain ⟨t, body, B, m, c, h1, h2, h3, h4, _, _, _⟩ := hc k hlt
      have hrt := rises_take ps 0 k (by omega) hr (t, body) h1
      have hmo := rises_more ps 0 (k + 1)
      have hnx : (if k + 1 = 0 then 0 else ((ps[k + 1 - 1]?).map (·.1)).getD 0) = t := by simp [h1]
      generalize (if k = 0 then (0 : Int) else ((ps[k - 1]?).map (·.1)).getD 0) = last at *
      have i0 : (0 : Int) ≤ (k : Int) := by omega
      have i1 : (k : Int) < (n0 : Int) := by omega
      have HRT := Lib.hid hrt
      have HMO := Lib.hid hmo
      have HNX := Lib.hid hnx
      have HBB := Lib.hid hB
      have HR := Lib.hid hr
      have H1 := Lib.hid h1
      clear hrt hmo hnx hB hr h1 hc hl
      by_cases hlast : last < t
      · go_wp2_with fail
        refine ⟨⟨k + 1, by omega, by go_num, by rw [HRT.out]; simpa using hlast, by rw [HNX.out], HBB.out.alloc HBB.out.size _⟩, by simp [intOf]; omega⟩
      · go_wp2_with fail
        go_ret
        refine ⟨ret_bool ?_, HBB.out.alloc HBB.out.size _⟩
        exact (HMO.out (by rw [HRT.out]; simpa using hlast)).symm
    · obtain rfl : k = n0 := by omega
      have hp : ps.take k = ps := by rw [List.take_of_length_le (by omega)]
      rw [hp] at hr
      have HR := Lib.hid hr
      clear hr
      generalize (if k = 0 then (0 : Int) else ((ps[k - 1]?).map (·.1)).getD 0) = last at *
      go_wp2_with fail
      go_ret
      exact ⟨ret_bool HR.out.symm, hB⟩
end Go.Proofs.YtjikjdignhdipaaGreatDoor
