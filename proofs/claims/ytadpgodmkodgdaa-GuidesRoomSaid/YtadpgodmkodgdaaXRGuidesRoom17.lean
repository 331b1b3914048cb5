/- The walk over HMAC-SHA-256, whole; are bytes the same?; Pieces as bytes, and back: plain laws on lists. -/
import Derived.Test.YtadpgodmkodgdaaXRGuidesRoom16
import Derived.Test.YtadpgodmkodgdaaXRGuidesRoom1
namespace Go.Proofs.Ytadpgodmkodgdaa
open Go.RowKit
set_option linter.unusedSimpArgs false
set_option linter.unusedVariables false

set_option maxRecDepth 100000 in
set_option maxHeartbeats 4000000 in
theorem mac_any (A P : Option Addr) (n c m cm : Nat) (key : List Int) (ps : List (List Int)) (w : World) (hr : Rd w .u8 A n key) (hc : n ≤ c) (hp : MParts w P m ps) :
    Calls Try.prog 43 #[.slice A n c, .slice P m cm] w (MacAns key ps w) := by
  have HALS := Lib.hid alloc_sumt
  have HZS : Hid (zSUMT.length = 32) := Lib.hid rfl
  have HALB := Lib.hid alloc_b64
  obtain ⟨ZS, hZS⟩ : ∃ Z, zSUMT = Z := ⟨_, rfl⟩
  obtain ⟨ZB, hZB⟩ : ∃ Z, zB64 = Z := ⟨_, rfl⟩
  rw [hZS] at HALS HZS
  rw [hZB] at HALB
  have HZSE := Lib.hid hZS
  have HZBE := Lib.hid hZB
  have HR := Lib.hid hr
  have HC := Lib.hid hc
  have HP := Lib.hid hp
  have hkl := hr.len
  have hbig := hr.big
  have HKL := Lib.hid hkl
  clear hr hc hp hZS hZB hkl
  by_cases hn : 64 < n
  · have hn' : (64 : Int) < (n : Int) := by omega
    have HN := Lib.hid hn
    clear hn
    go_enter Try.func43, Try.ntmps43
    go_upto_region 3 with (first
      | ((with_reducible refine wpList_isK (o := ⟨some 4, _, _, _, _, _⟩) ?_); refine wpList_allocT (o := ⟨some 4, .alloc 41, _, _, _, _⟩) rfl 41 ZS (fun W => HALS.out W _ rfl _) ?_; intro w1 HD1 HB1; obtain ⟨D, hD⟩ : ∃ R, w.heap.size = R := ⟨_, rfl⟩; rw [hD] at HD1 ⊢; have HD := Lib.hid hD; clear hD)
      | ((with_reducible refine wpList_isK (o := ⟨some 5, _, _, _, _, _⟩) ?_); refine wpList_allocT (o := ⟨some 5, .alloc 114, _, _, _, _⟩) rfl 114 ZB (fun W => HALB.out W _ rfl _) ?_; intro w2 HK2 HB2'; obtain ⟨KB, hKB⟩ : ∃ R, w1.heap.size = R := ⟨_, rfl⟩; rw [hKB] at HK2 ⊢; have HKB := Lib.hid (show w.heap.size ≤ KB ∧ D ≠ KB by have := HB1.out.size; have := HD1.out.lt; omega); have HB2 := Lib.hid (HB1.out.trans (HB2'.out.mono HB1.out.size)); have HD2 := Lib.hid (HD1.out.below HB2'.out HD1.out.lt); clear hKB HB2'))
    have hof := of_any A n c key w2 (HR.out.below HB2.out) HC.out
    have HOF := Lib.hid hof
    clear hof
    go_wp2_with fail
    refine HOF.out.mono ?_
    rintro e1 w3 ⟨rfl, hb3⟩
    obtain ⟨V, hV⟩ : ∃ V, (shaOf key).map (Value.int .u8) = V := ⟨_, rfl⟩
    have HVV := Lib.hid hV
    have HVL : Hid (V.length = 32) := Lib.hid (by rw [← hV, List.length_map, shaOf_length])
    have HONE : Hid (∀ v ∈ V, v.oneCell' = true) := Lib.hid (by rw [← hV]; exact one_u8s _)
    have HSV : Hid ((Try.prog.info? 41).map (·.size) = some V.length) := Lib.hid (by rw [HVL.out]; exact size_sumt)
    rw [hV]
    have HB3 := Lib.hid (HB2.out.trans (hb3.mono HB2.out.size))
    have HD3 := Lib.hid (HD2.out.below hb3 HD2.out.lt)
    have HK3 := Lib.hid (HK2.out.below hb3 HK2.out.lt)
    clear hV hb3
    have hall := fun S => sum_all S
    go_upto_region 5 with (first
      | ((with_reducible refine wpList_isK (o := ⟨some 6, _, _, _, _, _⟩) ?_); refine wpList_allocT (o := ⟨some 6, .alloc 41, _, _, _, _⟩) rfl 41 ZS (fun W => HALS.out W _ rfl _) ?_; intro w4 HS4 HB4'; obtain ⟨S, hS⟩ : ∃ R, w3.heap.size = R := ⟨_, rfl⟩; rw [hS] at HS4 ⊢; have HB4 := Lib.hid (HB3.out.trans (HB4'.out.mono HB3.out.size)); have HD4 := Lib.hid (HD3.out.below HB4'.out HD3.out.lt); have HK4 := Lib.hid (HK3.out.below HB4'.out HK3.out.lt); have HSS := Lib.hid (show w.heap.size ≤ S ∧ D < S ∧ KB < S by have := HB3.out.size; have := HD3.out.lt; have := HK3.out.lt; omega); clear hS HB4')
      | ((with_reducible refine wpList_isK (o := ⟨none, .store 41 (.tmp 6) (.tmp 17), _, _, _, _⟩) ?_); refine wpList_over (o := ⟨none, .store 41 (.tmp 6) _, _, _, _, _⟩) rfl 41 _ _ rfl S V ZS 41 rfl rfl HS4.out (by rw [HVL.out, HZS.out]) HSV.out HONE.out ?_; intro w5 HS5 hk5; have HB5 := Lib.hid (below_keeps HB4.out hk5.out (Nat.le_refl _) (fun i hi => by rw [hi]; exact HSS.out.1)); have HD5 := Lib.hid (HD4.out.keep hk5.out (fun h => by have := HSS.out; omega)); have HK5 := Lib.hid (HK4.out.keep hk5.out (fun h => by have := HSS.out; omega)); clear hk5))
    rename_i K0 hK0
    have hs5 := HS5.out
    rw [← HVV.out] at hs5
    have hif : (if 64 < key.length then shaOf key else key) = shaOf key := if_pos (by rw [HKL.out]; exact HN.out)
    exact mac_tail hK0 HB5.out (by rw [HZSE.out]; exact HD5.out) (by rw [HZBE.out]; exact HK5.out) (by rw [HD.out]; exact Nat.le_refl _) HKB.out.1 HKB.out.2 (rd_of_blk hs5 (shaOf_bytes _) (shaOf_length _) (by omega)) (by omega) (Nat.le_refl _) (by rw [key64, hif]) HP.out
  · have hn' : ¬ (64 : Int) < (n : Int) := by omega
    have HN := Lib.hid hn
    clear hn
    go_enter Try.func43, Try.ntmps43
    go_upto_region 5 with (first
      | ((with_reducible refine wpList_isK (o := ⟨some 4, _, _, _, _, _⟩) ?_); refine wpList_allocT (o := ⟨some 4, .alloc 41, _, _, _, _⟩) rfl 41 ZS (fun W => HALS.out W _ rfl _) ?_; intro w1 HD1 HB1; obtain ⟨D, hD⟩ : ∃ R, w.heap.size = R := ⟨_, rfl⟩; rw [hD] at HD1 ⊢; have HD := Lib.hid hD; clear hD)
      | ((with_reducible refine wpList_isK (o := ⟨some 5, _, _, _, _, _⟩) ?_); refine wpList_allocT (o := ⟨some 5, .alloc 114, _, _, _, _⟩) rfl 114 ZB (fun W => HALB.out W _ rfl _) ?_; intro w2 HK2 HB2'; obtain ⟨KB, hKB⟩ : ∃ R, w1.heap.size = R := ⟨_, rfl⟩; rw [hKB] at HK2 ⊢; have HKB := Lib.hid (show w.heap.size ≤ KB ∧ D ≠ KB by have := HB1.out.size; have := HD1.out.lt; omega); have HB2 := Lib.hid (HB1.out.trans (HB2'.out.mono HB1.out.size)); have HD2 := Lib.hid (HD1.out.below HB2'.out HD1.out.lt); clear hKB HB2'))
    rename_i K0 hK0
    have hif : (if 64 < key.length then shaOf key else key) = key := if_neg (by rw [HKL.out]; exact HN.out)
    exact mac_tail hK0 HB2.out (by rw [HZSE.out]; exact HD2.out) (by rw [HZBE.out]; exact HK2.out) (by rw [HD.out]; exact Nat.le_refl _) HKB.out.1 HKB.out.2 (HR.out.below HB2.out) (by have := HN.out; omega) HC.out (by rw [key64, hif]) HP.out
end Go.Proofs.Ytadpgodmkodgdaa

namespace Go.Proofs.Ytadpgodmkodgdaa
set_option linter.unusedSimpArgs false
set_option linter.unusedVariables false

/-- Up to a multiple of 8. -/
def fill8 (n : Nat) : Nat := (n + 7) / 8 * 8
/-- A piece: its type, and its body. -/
abbrev Piece := Int × List Int
def pieceB (p : Piece) : List Int := be p.1 2 ++ be p.2.length 2 ++ p.2 ++ List.replicate (fill8 (4 + p.2.length) - (4 + p.2.length)) 0
def pieces : List Piece → List Int
  | [] => []
  | p :: l => pieceB p ++ pieces l
/-- The types rise. -/
def rises : Int → List Piece → Bool
  | _, [] => true
  | last, p :: l => decide (last < p.1) && rises p.1 l
/-- What Put answers. -/
def putE (l : List Piece) : Int :=
  if rises 0 l = false then 1 else if 16 < l.length then 3 else if l.any (fun p => decide (2048 < p.2.length)) then 3 else if 2048 < (pieces l).length then 3 else 0
/-- What Get answers, from some bytes on. -/
def getGo : Nat → Int → List Piece → List Int → Int × List Piece
  | 0, _, _, _ => (4, [])
  | f + 1, last, out, b =>
    if b.length = 0 then (0, out) else if b.length < 4 then (5, [])
    else if b.length < fill8 (4 + (told ((b.drop 2).take 2)).toNat) then (5, [])
    else if told (b.take 2) ≤ last then (4, [])
    else if ((b.drop (4 + (told ((b.drop 2).take 2)).toNat)).take (fill8 (4 + (told ((b.drop 2).take 2)).toNat) - (4 + (told ((b.drop 2).take 2)).toNat))).any (fun x => decide (x ≠ 0)) then (4, [])
    else if 16 ≤ out.length then (3, [])
    else getGo f (told (b.take 2)) (out ++ [(told (b.take 2), (b.drop 4).take (told ((b.drop 2).take 2)).toNat)]) (b.drop (fill8 (4 + (told ((b.drop 2).take 2)).toNat)))
def paGet (b : List Int) : Int × List Piece := if 2048 < b.length then (3, []) else getGo (b.length + 1) 0 [] b
/-- A piece that can be: a type, and bytes. -/
def okPiece (p : Piece) : Prop := 0 ≤ p.1 ∧ p.1 ≤ 65535 ∧ ∀ x ∈ p.2, 0 ≤ x ∧ x ≤ 255

theorem fill8_ge (n : Nat) : n ≤ fill8 n ∧ fill8 n < n + 8 ∧ fill8 n % 8 = 0 := by unfold fill8; omega
theorem pieceB_length (p : Piece) : (pieceB p).length = fill8 (4 + p.2.length) := by
  have := fill8_ge (4 + p.2.length)
  simp only [pieceB, List.length_append, be_length, List.length_replicate]; omega
theorem pieces_append (l m : List Piece) : pieces (l ++ m) = pieces l ++ pieces m := by
  induction l with
  | nil => rfl
  | cons p l ih => simp only [List.cons_append, pieces, ih, List.append_assoc]
theorem pieces_mod (l : List Piece) : (pieces l).length % 8 = 0 := by
  induction l with
  | nil => rfl
  | cons p l ih => rw [pieces, List.length_append, pieceB_length]; have := fill8_ge (4 + p.2.length); omega
theorem pieces_byte : ∀ (l : List Piece), (∀ p ∈ l, okPiece p) → ∀ x ∈ pieces l, 0 ≤ x ∧ x ≤ 255
  | [], _, x, hx => by simp [pieces] at hx
  | p :: l, h, x, hx => by
    rw [pieces, List.mem_append] at hx
    rcases hx with hx | hx
    · simp only [pieceB, List.mem_append, List.mem_replicate] at hx
      rcases hx with ((hx | hx) | hx) | hx
      · exact be_byte _ _ x hx
      · exact be_byte _ _ x hx
      · exact (h p (by simp)).2.2 x hx
      · obtain ⟨_, rfl⟩ := hx; omega
    · exact pieces_byte l (fun q hq => h q (by simp [hq])) x hx
/-- The head of a piece's bytes. -/
theorem pieceB_parts (p : Piece) (m : List Int) (h : okPiece p) (hn : p.2.length < 65536) :
    told ((pieceB p ++ m).take 2) = p.1 ∧ (told (((pieceB p ++ m).drop 2).take 2)).toNat = p.2.length ∧ ((pieceB p ++ m).drop 4).take p.2.length = p.2 ∧
    ((pieceB p ++ m).drop (4 + p.2.length)).take (fill8 (4 + p.2.length) - (4 + p.2.length)) = List.replicate (fill8 (4 + p.2.length) - (4 + p.2.length)) 0 ∧ (pieceB p ++ m).drop (fill8 (4 + p.2.length)) = m := by
  obtain ⟨t, l⟩ := p
  simp only [pieceB] at *
  have e1 : (be t 2).length = 2 := be_length 2 t
  have e2 : (be (l.length : Int) 2).length = 2 := be_length 2 _
  have t1 : told (be t 2) = t := told_be 2 t h.1 (by have := h.2.1; simp [pow256]; omega)
  have t2 : told (be (l.length : Int) 2) = l.length := told_be 2 _ (by omega) (by simp [pow256]; omega)
  generalize be t 2 = x at *
  generalize be (l.length : Int) 2 = y at *
  have hf := fill8_ge (4 + l.length)
  generalize fill8 (4 + l.length) = F at *
  refine ⟨?_, ?_, ?_, ?_, ?_⟩
  · rw [List.append_assoc, List.append_assoc, List.append_assoc, List.take_append_of_le_length (by omega), List.take_of_length_le (by omega), t1]
  · rw [List.append_assoc, List.append_assoc, List.append_assoc, List.drop_append_of_le_length (by omega), List.drop_of_length_le (by omega), List.nil_append, List.take_append_of_le_length (by omega), List.take_of_length_le (by omega), t2]; omega
  · rw [List.append_assoc, List.append_assoc, List.drop_append_of_le_length (by simp; omega), List.drop_of_length_le (by simp; omega), List.nil_append, List.take_append_of_le_length (by omega), List.take_of_length_le (by omega)]
  · rw [List.append_assoc, List.drop_append_of_le_length (by simp; omega), List.drop_of_length_le (by simp; omega), List.nil_append, List.take_append_of_le_length (by simp), List.take_of_length_le (by simp)]
  · rw [List.drop_append_of_le_length (by simp; omega), List.drop_of_length_le (by simp; omega), List.nil_append]

/-- What is put is got. -/
theorem getGo_pieces : ∀ (l : List Piece) (f : Nat) (last : Int) (out : List Piece), (∀ p ∈ l, okPiece p) → (∀ p ∈ l, p.2.length ≤ 2048) → rises last l = true → out.length + l.length ≤ 16 → (pieces l).length < f → getGo f last out (pieces l) = (0, out ++ l)
  | [], f, last, out, _, _, _, _, hf => by
    obtain ⟨f, rfl⟩ : ∃ g, f = g + 1 := ⟨f - 1, by omega⟩
    simp [getGo, pieces]
  | p :: l, f, last, out, hk, hb, hr, ho, hf => by
    obtain ⟨f, rfl⟩ : ∃ g, f = g + 1 := ⟨f - 1, by omega⟩
    have hp := hb p (by simp)
    obtain ⟨e1, e2, e3, e4, e5⟩ := pieceB_parts p (pieces l) (hk p (by simp)) (by omega)
    have hF := fill8_ge (4 + p.2.length)
    have hl : (pieceB p ++ pieces l).length = fill8 (4 + p.2.length) + (pieces l).length := by rw [List.length_append, pieceB_length]
    rw [pieces, hl] at hf
    simp only [rises, Bool.and_eq_true, decide_eq_true_eq] at hr
    rw [pieces, getGo, e1, e2, e3, e4, e5, hl]
    rw [if_neg (by omega), if_neg (by omega), if_neg (by omega), if_neg (by omega), if_neg (by simp [List.any_replicate]), if_neg (by simp at ho; omega)]
    rw [getGo_pieces l f p.1 _ (fun q hq => hk q (by simp [hq])) (fun q hq => hb q (by simp [hq])) hr.2 (by simp at ho ⊢; omega) (by omega)]
    simp
/-- What is got is what is put. -/
theorem getGo_back : ∀ (f : Nat) (last : Int) (out r : List Piece) (b : List Int), (∀ x ∈ b, 0 ≤ x ∧ x ≤ 255) → getGo f last out b = (0, r) →
    ∃ l, r = out ++ l ∧ pieces l = b ∧ rises last l = true ∧ (l ≠ [] → r.length ≤ 16) ∧ (∀ p ∈ l, okPiece p ∧ p.2.length ≤ b.length)
  | 0, last, out, r, b, _, h => by simp [getGo] at h
  | f + 1, last, out, r, b, hb, h => by
    rw [getGo] at h
    split at h
    · rename_i h0
      injection h with _ h; subst h
      exact ⟨[], by simp, by rw [List.eq_nil_of_length_eq_zero h0]; rfl, rfl, by simp, by simp⟩
    · split at h
      · cases h
      · split at h
        · cases h
        · split at h
          · cases h
          · split at h
            · cases h
            · split at h
              · cases h
              · rename_i h0 h4 hF ht hz ho
                obtain ⟨n, hn⟩ : ∃ n, (told ((b.drop 2).take 2)).toNat = n := ⟨_, rfl⟩
                rw [hn] at h hF hz
                have hfb := fill8_ge (4 + n)
                have hd : ∀ x ∈ b.drop (fill8 (4 + n)), 0 ≤ x ∧ x ≤ 255 := fun x hx => hb x (List.mem_of_mem_drop hx)
                obtain ⟨l, e1, e2, e3, e4, e5⟩ := getGo_back f _ _ _ _ hd h
                have hF0 : (b.drop 4).length = b.length - 4 := by simp
                have hlen : ((b.drop 4).take n).length = n := by rw [List.length_take, hF0]; omega
                have htb : ∀ x ∈ b.take 2, 0 ≤ x ∧ x ≤ 255 := fun x hx => hb x (List.mem_of_mem_take hx)
                have hnb : ∀ x ∈ (b.drop 2).take 2, 0 ≤ x ∧ x ≤ 255 := fun x hx => hb x (List.mem_of_mem_drop (List.mem_of_mem_take hx))
                have hT := told_bounds _ htb
                have hN := told_bounds _ hnb
                have hl1 : (b.take 2).length = 2 := by rw [List.length_take]; omega
                have hl2 : ((b.drop 2).take 2).length = 2 := by rw [List.length_take, List.length_drop]; omega
                have hb1 : be (told (b.take 2)) 2 = b.take 2 := by have := be_told _ htb; rwa [hl1] at this
                have hb2 : be ((n : Nat) : Int) 2 = (b.drop 2).take 2 := by
                  have := be_told _ hnb
                  rw [hl2] at this
                  rw [← hn, Int.toNat_of_nonneg hN.1]; exact this
                have hz' : (b.drop (4 + n)).take (fill8 (4 + n) - (4 + n)) = List.replicate (fill8 (4 + n) - (4 + n)) 0 := by
                  refine List.eq_replicate_iff.2 ⟨by rw [List.length_take, List.length_drop]; omega, fun x hx => ?_⟩
                  have hz2 : ((b.drop (4 + n)).take (fill8 (4 + n) - (4 + n))).any (fun x => decide (x ≠ 0)) = false := by simpa using hz
                  rw [List.any_eq_false] at hz2
                  have := hz2 x hx
                  simpa using this
                have hx : pieceB (told (b.take 2), (b.drop 4).take n) ++ b.drop (fill8 (4 + n)) = b := by
                  simp only [pieceB]
                  rw [hlen, hb1, hb2, ← hz']
                  have a1 : (b.drop (4 + n)).take (fill8 (4 + n) - (4 + n)) ++ b.drop (fill8 (4 + n)) = b.drop (4 + n) := by
                    have := List.take_append_drop (fill8 (4 + n) - (4 + n)) (b.drop (4 + n))
                    rwa [List.drop_drop, show 4 + n + (fill8 (4 + n) - (4 + n)) = fill8 (4 + n) by omega] at this
                  have a2 : (b.drop 4).take n ++ b.drop (4 + n) = b.drop 4 := by
                    have := List.take_append_drop n (b.drop 4)
                    rwa [List.drop_drop] at this
                  have a3 : (b.drop 2).take 2 ++ b.drop 4 = b.drop 2 := by
                    have := List.take_append_drop 2 (b.drop 2)
                    rwa [List.drop_drop] at this
                  rw [List.append_assoc, a1, List.append_assoc, a2, List.append_assoc, a3]
                  exact List.take_append_drop 2 b
                refine ⟨(told (b.take 2), (b.drop 4).take n) :: l, ?_, ?_, ?_, ?_, ?_⟩
                · rw [e1, List.append_assoc]; rfl
                · rw [pieces, e2]; exact hx
                · simp only [rises, Bool.and_eq_true, decide_eq_true_eq]; exact ⟨by omega, e3⟩
                · intro _
                  by_cases hl : l = []
                  · subst hl; rw [e1]; simp; omega
                  · exact e4 hl
                · intro p hp
                  rcases List.mem_cons.1 hp with rfl | hp
                  · refine ⟨⟨hT.1, ?_, fun x hx => hb x (List.mem_of_mem_drop (List.mem_of_mem_take hx))⟩, ?_⟩
                    · have := hT.2; rw [hl1] at this; simp [pow256] at this; simp only; omega
                    · simp only; rw [hlen]; omega
                  · have := e5 p hp
                    rw [List.length_drop] at this
                    exact ⟨this.1, by omega⟩
/-- Get of what Put makes. -/
theorem paGet_put {l : List Piece} (hk : ∀ p ∈ l, okPiece p) (h : putE l = 0) : paGet (pieces l) = (0, l) := by
  unfold putE at h
  split at h
  · cases h
  · split at h
    · cases h
    · split at h
      · cases h
      · split at h
        · cases h
        · rename_i h1 h2 h3 h4
          rw [paGet, if_neg h4]
          have := getGo_pieces l ((pieces l).length + 1) 0 [] hk (fun p hp => by
            have h5 : l.any (fun p => decide (2048 < p.2.length)) = false := by simpa using h3
            rw [List.any_eq_false] at h5
            have := h5 p hp
            simp at this; omega) (by simpa using h1) (by simp; omega) (by omega)
          simpa using this
/-- Put of what Get tells. -/
theorem paPut_get {l : List Piece} {b : List Int} (hb : ∀ x ∈ b, 0 ≤ x ∧ x ≤ 255) (h : paGet b = (0, l)) : putE l = 0 ∧ pieces l = b ∧ ∀ p ∈ l, okPiece p := by
  unfold paGet at h
  split at h
  · cases h
  · rename_i hlen
    obtain ⟨m, e1, e2, e3, e4, e5⟩ := getGo_back _ _ _ _ _ hb h
    rw [List.nil_append] at e1
    subst e1
    refine ⟨?_, e2, fun p hp => (e5 p hp).1⟩
    unfold putE
    rw [e2, e3, if_neg (by simp), if_neg ?_, if_neg ?_, if_neg hlen]
    · rw [List.any_eq_true]
      rintro ⟨p, hp, h5⟩
      have := (e5 p hp).2
      simp at h5; omega
    · by_cases hl : l = []
      · subst hl; simp
      · have := e4 hl; omega
end Go.Proofs.Ytadpgodmkodgdaa
