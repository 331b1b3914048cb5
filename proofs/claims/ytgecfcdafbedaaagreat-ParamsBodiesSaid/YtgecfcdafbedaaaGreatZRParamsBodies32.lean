/- What is put as a body is got: plain laws; What is put as a body is got: the calls, by their answers. -/
import Derived.Test.YtgecfcdafbedaaaGreatZRParamsBodies15
import Derived.Test.YtgecfcdafbedaaaGreatZRParamsBodies24
import Derived.Test.YtgecfcdafbedaaaGreatZRParamsBodies29
import Derived.Test.YtgecfcdafbedaaaGreatZRParamsBodies30
import Derived.Test.YtgecfcdafbedaaaGreatZRParamsBodies31
namespace Go.Proofs.YtgecfcdafbedaaaGreat
open Go.RowKit
set_option linter.unusedSimpArgs false
set_option linter.unusedVariables false

theorem told_be4 {x : Int} (h : 0 ≤ x ∧ x ≤ 4294967295) : told (be x 4) = x := told_be 4 x h.1 (by have e : pow256 4 = 4294967296 := by decide
                                                                                                   omega)
theorem told_be8 {x : Int} (h : 0 ≤ x ∧ x ≤ 18446744073709551615) : told (be x 8) = x := told_be 8 x h.1 (by have e : pow256 8 = 18446744073709551616 := by decide
                                                                                                             omega)
theorem take_left {α : Type} {l m : List α} {k : Nat} (h : l.length = k) : (l ++ m).take k = l := by subst h; simp
theorem drop_left {α : Type} {l m : List α} {k : Nat} (h : l.length = k) : (l ++ m).drop k = m := by subst h; simp
theorem lane_back {x y : Int} (hx : 0 ≤ x ∧ x ≤ 4294967295) (hy : 0 ≤ y ∧ y ≤ 4294967295) : laneV (be x 4 ++ be y 4) 8 = (x, y, 0) := by
  have h1 : (be x 4 ++ be y 4).take 4 = be x 4 := take_left (be_length ..)
  have h2 : (be x 4 ++ be y 4).drop 4 = be y 4 := drop_left (be_length ..)
  have h3 : (be y 4).take 4 = be y 4 := List.take_of_length_le (by rw [be_length]; omega)
  unfold laneV
  rw [if_pos rfl, h1, h2, h3, told_be4 hx, told_be4 hy]
theorem count_back {x : Int} (hx : 0 ≤ x ∧ x ≤ 4294967295) : cntV (be x 4) 4 = x ∧ cntE 4 = 0 := by
  have h3 : (be x 4).take 4 = be x 4 := List.take_of_length_le (by rw [be_length]; omega)
  refine ⟨?_, rfl⟩
  unfold cntV
  rw [if_pos rfl, h3, told_be4 hx]
theorem flat4 (d c b a : Int) : flat [d, c, b, a] 8 = be d 8 ++ (be c 8 ++ (be b 8 ++ be a 8)) := by simp [flat]
theorem long_back {a b c d : Int} (hu : U64s [a, b, c, d]) : longC (flat [d, c, b, a] 8) = [a, b, c, d].map (Value.int .u64) := by
  have ha := hu a (by simp)
  have hb := hu b (by simp)
  have hc := hu c (by simp)
  have hd := hu d (by simp)
  have e8 : ∀ x, (be x 8).length = 8 := be_length 8
  have t8 : ∀ x, (be x 8).take 8 = be x 8 := fun x => List.take_of_length_le (by rw [e8]; omega)
  have p0 : (flat [d, c, b, a] 8).drop 8 = be c 8 ++ (be b 8 ++ be a 8) := by rw [flat4]; exact drop_left (e8 _)
  have p1 : (flat [d, c, b, a] 8).drop 16 = be b 8 ++ be a 8 := by rw [show 16 = 8 + 8 from rfl, ← List.drop_drop, p0]; exact drop_left (e8 _)
  have p2 : (flat [d, c, b, a] 8).drop 24 = be a 8 := by rw [show 24 = 16 + 8 from rfl, ← List.drop_drop, p1]; exact drop_left (e8 _)
  have q0 : ((flat [d, c, b, a] 8).drop 0).take 8 = be d 8 := by rw [List.drop_zero, flat4]; exact take_left (e8 _)
  have q1 : ((flat [d, c, b, a] 8).drop 8).take 8 = be c 8 := by rw [p0]; exact take_left (e8 _)
  have q2 : ((flat [d, c, b, a] 8).drop 16).take 8 = be b 8 := by rw [p1]; exact take_left (e8 _)
  have q3 : ((flat [d, c, b, a] 8).drop 24).take 8 = be a 8 := by rw [p2]; exact t8 _
  unfold longC longGot
  rw [if_neg (by omega), q0, q1, q2, q3, told_be8 ha, told_be8 hb, told_be8 hc, told_be8 hd]
theorem sig_back {a b c d a' b' c' d' : Int} (hu : U64s [a, b, c, d]) (hu' : U64s [a', b', c', d']) : sigC (flat [d, c, b, a] 8 ++ flat [d', c', b', a'] 8) = ([a, b, c, d] ++ [a', b', c', d']).map (Value.int .u64) := by
  have hl : (flat [d, c, b, a] 8).length = 32 := by simp [flat_length]
  unfold sigC
  rw [take_left hl, drop_left hl, long_back hu, long_back hu', List.map_append]
theorem puz_back {x y : Int} {bs r : List Int} (hy : 0 ≤ y ∧ y ≤ 18446744073709551615) (hl : bs.length = 32) : puzC ([x] ++ be y 8 ++ bs ++ r) = puzP x y bs := by
  have e8 : (be y 8).length = 8 := be_length 8 y
  have h1 : ([x] ++ be y 8 ++ bs ++ r).drop 1 = be y 8 ++ (bs ++ r) := by simp
  have h9 : ([x] ++ be y 8 ++ bs ++ r).drop 9 = bs ++ r := by rw [show 9 = 1 + 8 from rfl, ← List.drop_drop, h1]; exact drop_left e8
  unfold puzC puzP
  rw [h1, take_left e8, told_be8 hy, h9, take_left hl]
  simp
theorem puz_back0 {x y : Int} {bs : List Int} (hy : 0 ≤ y ∧ y ≤ 18446744073709551615) (hl : bs.length = 32) : puzC ([x] ++ be y 8 ++ bs) = puzP x y bs := by
  have := puz_back (x := x) (r := []) hy hl
  rwa [List.append_nil] at this
theorem sol_drop {x y : Int} {bs cs : List Int} (hl : bs.length = 32) : ([x] ++ be y 8 ++ bs ++ cs).drop 41 = cs := drop_left (by simp [be_length, hl])
/-- The spots' bytes tell them back. -/
theorem spPre_drop (n : Nat) (f : Nat → Int) : ∀ (k j : Nat), j < k → ((spPre n f k).drop (1 + 4 * j)).take 4 = be (f j) 4
  | 0, j, h => absurd h (by omega)
  | k + 1, j, h => by
    have hl := spPre_length n f k
    rcases Nat.lt_or_ge j k with h1 | h1
    · have ih := spPre_drop n f k j h1
      rw [spPre, List.drop_append_of_le_length (by omega), List.take_append_of_le_length (by rw [List.length_drop, hl]; omega)]
      exact ih
    · obtain rfl : j = k := by omega
      rw [spPre, drop_left hl]
      exact List.take_of_length_le (by rw [be_length]; omega)
theorem spots_back {n : Nat} {xs r : List Int} (hn : xs.length = n) (hx : ∀ x ∈ xs, 0 ≤ x ∧ x ≤ 4294967295) : spList (spPre n (atL xs) n ++ r) n = xs := by
  subst hn
  apply List.ext_getElem
  · rw [spList_len]
  · intro j h1 h2
    have hl := spPre_length xs.length (atL xs) xs.length
    have e : rd4 (spPre xs.length (atL xs) xs.length ++ r) j = xs[j] := by
      unfold rd4
      rw [List.drop_append_of_le_length (by omega), List.take_append_of_le_length (by rw [List.length_drop, hl]; omega), spPre_drop _ _ _ _ h2]
      have ha : atL xs j = xs[j] := by simp [atL, List.getElem?_eq_getElem h2]
      rw [ha, told_be4 (hx _ (List.getElem_mem h2))]
    simp only [spList, List.getElem_map, List.getElem_range]
    exact e
theorem spPre_head (n : Nat) (f : Nat → Int) : ∀ k, (spPre n f k)[0]? = some (n : Int)
  | 0 => rfl
  | k + 1 => by
    rw [spPre, List.getElem?_append_left (by rw [spPre_length]; omega)]
    exact spPre_head n f k
theorem spots_got {n : Nat} {xs : List Int} (hn : xs.length = n) (hx : ∀ x ∈ xs, 0 ≤ x ∧ x ≤ 4294967295) (hok : SpOk n (atL xs)) : GsOk (spPre n (atL xs) n) (1 + 4 * n) n := by
  have e := spots_back (r := []) hn hx
  rw [List.append_nil] at e
  exact ⟨hok.2.1, by rw [spPre_head]; rfl, rfl, by rw [e]; exact hok⟩
theorem spots_not {n : Nat} {f : Nat → Int} {r : List Int} : ¬ ∃ m, GsOk (spPre n f n ++ r) (1 + 4 * n + 1) m := fun ⟨m, h⟩ => by
  have := h.2.2.1
  omega
end Go.Proofs.YtgecfcdafbedaaaGreat

namespace Go.Proofs.YtgecfcdafbedaaaGreat
open Go.RowKit
set_option linter.unusedSimpArgs false
set_option linter.unusedVariables false

/-- New bytes, read. -/
def NewRd (w : World) (n : Nat) (bs : List Int) (e : Ending) (w' : World) : Prop := ∃ g c, e = .returned (.slice (some ⟨g, 0, none⟩) n c) ∧ n ≤ c ∧ Rd w' .u8 (some ⟨g, 0, none⟩) n bs ∧ Below w.heap.size w w'
theorem newrd_own {w w' : World} {A : Option Addr} {n c : Nat} {bs : List Int} (hl : n ≤ c) (ho : w'.ownsRow w.heap.size 5 1 (.slice A n c) n (bs.map (Value.int .u8))) (hb : ∀ x ∈ bs, 0 ≤ x ∧ x ≤ 255) (h0 : 0 < n) (hn : n ≤ 140737488351232) (hB : Below w.heap.size w w') :
    NewRd w n bs (.returned (.slice A n c)) w' := by
  obtain ⟨g, c', e, h1, h2, h3⟩ := own_some ho h0
  injection e with e1 e2 e3
  subst e1
  exact ⟨g, c, rfl, hl, rd_own ho hb hn, hB⟩
theorem newrd_made {w w' : World} {bs : List Int} {e : Ending} {n : Nat} (h : Made w bs e w') (hl : bs.length = n) (hb : ∀ x ∈ bs, 0 ≤ x ∧ x ≤ 255) (hn : n ≤ 140737488351232) : NewRd w n bs e w' := by
  obtain ⟨g, hg, rfl, hk, hB⟩ := h
  rw [hl]
  exact ⟨g, n, rfl, Nat.le_refl _, rd_of_blk hk hb hl hn, hB⟩
theorem app_bytes {a b : List Int} (ha : ∀ x ∈ a, 0 ≤ x ∧ x ≤ 255) (hb : ∀ x ∈ b, 0 ≤ x ∧ x ≤ 255) : ∀ x ∈ a ++ b, 0 ≤ x ∧ x ≤ 255 := fun x hx => by
  rcases List.mem_append.1 hx with h | h
  · exact ha x h
  · exact hb x h
theorem lane_put (x y : Int) (w : World) (hx : 0 ≤ x ∧ x ≤ 4294967295) (hy : 0 ≤ y ∧ y ≤ 4294967295) : Calls Tryz.prog 25 #[.int .u32 x, .int .u32 y] w (NewRd w 8 (be x 4 ++ be y 4)) :=
  (putLane_any x y w hx hy).mono fun e w' ⟨A, c, he, hc, ho, hB⟩ => by
    subst he
    exact newrd_own hc ho (app_bytes (be_byte 4 x) (be_byte 4 y)) (by omega) (by omega) hB
theorem lane_got (x y : Int) (g c : Nat) (W : World) (r : Rd W .u8 (some ⟨g, 0, none⟩) 8 (be x 4 ++ be y 4)) (l : 8 ≤ c) (hx : 0 ≤ x ∧ x ≤ 4294967295) (hy : 0 ≤ y ∧ y ≤ 4294967295) :
    Calls Tryz.prog 5 #[.slice (some ⟨g, 0, none⟩) 8 c] W fun e w' => e = .returned (.tuple #[.int .u32 x, .int .u32 y, .int .i64 0]) ∧ Below W.heap.size W w' := by
  have h := getlane_any (some ⟨g, 0, none⟩) 8 c _ W r l (by simp)
  rwa [lane_back hx hy] at h
theorem count_put (x : Int) (w : World) (hx : 0 ≤ x ∧ x ≤ 4294967295) : Calls Tryz.prog 31 #[.int .u32 x] w (NewRd w 4 (be x 4)) :=
  (putcount_any x w hx.1 hx.2).mono fun e w' h => newrd_made h (be_length 4 x) (be_byte 4 x) (by omega)
theorem count_got (x : Int) (g c : Nat) (W : World) (r : Rd W .u8 (some ⟨g, 0, none⟩) 4 (be x 4)) (l : 4 ≤ c) (hx : 0 ≤ x ∧ x ≤ 4294967295) :
    Calls Tryz.prog 14 #[.slice (some ⟨g, 0, none⟩) 4 c] W fun e w' => e = .returned (.tuple #[.int .u32 x, .int .i64 0]) ∧ Below W.heap.size W w' := by
  have h := getcount_any (some ⟨g, 0, none⟩) 4 c _ W r l
  rwa [(count_back hx).1, (count_back hx).2] at h
theorem long_put (a b c d : Int) (w : World) (hu : U64s [a, b, c, d]) : Calls Tryz.prog 33 #[.agg ([a, b, c, d].map (Value.int .u64)).toArray] w (NewRd w 32 (flat [d, c, b, a] 8)) :=
  (putLong_any a b c d w hu).mono fun e w' h => newrd_made h (by simp [flat_length]) flat_byteB (by omega)
theorem long_got (a b c d : Int) (g cc : Nat) (W : World) (r : Rd W .u8 (some ⟨g, 0, none⟩) 32 (flat [d, c, b, a] 8)) (l : 32 ≤ cc) (hu : U64s [a, b, c, d]) :
    Calls Tryz.prog 16 #[.slice (some ⟨g, 0, none⟩) 32 cc] W fun e w' => e = .returned (.tuple #[.agg ([a, b, c, d].map (Value.int .u64)).toArray, .int .i64 0]) ∧ Below W.heap.size W w' :=
  (getnum_any (some ⟨g, 0, none⟩) 32 cc _ W r l (by simp)).mono fun e w' ⟨h, hB⟩ => by
    rcases h with ⟨_, h⟩ | ⟨h, _⟩
    · rw [long_back hu] at h
      exact ⟨h, hB⟩
    · exact absurd rfl h
theorem sum_put (bs : List Int) (w : World) (hl : bs.length = 32) (hb : ∀ x ∈ bs, 0 ≤ x ∧ x ≤ 255) : Calls Tryz.prog 35 #[.agg (bs.map (Value.int .u8)).toArray] w (NewRd w 32 bs) :=
  (putSum_any bs w hl hb).mono fun e w' ⟨A, c, he, hc, ho, _, hB⟩ => by
    subst he
    exact newrd_own hc ho hb (by omega) (by omega) hB
theorem sum_got (bs : List Int) (g cc : Nat) (W : World) (r : Rd W .u8 (some ⟨g, 0, none⟩) 32 bs) (l : 32 ≤ cc) :
    Calls Tryz.prog 18 #[.slice (some ⟨g, 0, none⟩) 32 cc] W fun e w' => e = .returned (.tuple #[.agg (bs.map (Value.int .u8)).toArray, .int .i64 0]) ∧ Below W.heap.size W w' :=
  (getsum_any (some ⟨g, 0, none⟩) 32 cc _ W r l (by simp)).mono fun e w' ⟨h, hB⟩ => by
    rcases h with ⟨_, h⟩ | ⟨h, _⟩
    · exact ⟨h, hB⟩
    · exact absurd rfl h
theorem sig_put (a b c d a' b' c' d' : Int) (w : World) (hu : U64s [a, b, c, d]) (hu' : U64s [a', b', c', d']) : Calls Tryz.prog 37 #[.agg (([a, b, c, d] ++ [a', b', c', d']).map (Value.int .u64)).toArray] w (NewRd w 64 (flat [d, c, b, a] 8 ++ flat [d', c', b', a'] 8)) :=
  (putSig_any a b c d a' b' c' d' w hu hu').mono fun e w' h => newrd_made h (by simp [flat_length]) (app_bytes flat_byteB flat_byteB) (by omega)
theorem sig_got (a b c d a' b' c' d' : Int) (g cc : Nat) (W : World) (r : Rd W .u8 (some ⟨g, 0, none⟩) 64 (flat [d, c, b, a] 8 ++ flat [d', c', b', a'] 8)) (l : 64 ≤ cc) (hu : U64s [a, b, c, d]) (hu' : U64s [a', b', c', d']) :
    Calls Tryz.prog 20 #[.slice (some ⟨g, 0, none⟩) 64 cc] W fun e w' => e = .returned (.tuple #[.agg (([a, b, c, d] ++ [a', b', c', d']).map (Value.int .u64)).toArray, .int .i64 0]) ∧ Below W.heap.size W w' :=
  (getsig_any (some ⟨g, 0, none⟩) 64 cc _ W r l (by simp)).mono fun e w' ⟨h, hB⟩ => by
    rcases h with ⟨_, h⟩ | ⟨h, _⟩
    · rw [sig_back hu hu'] at h
      exact ⟨h, hB⟩
    · exact absurd rfl h
theorem head_puz {x y : Int} {bs r : List Int} : ([x] ++ be y 8 ++ bs ++ r)[0]?.getD 0 = x := by simp
theorem head_puz0 {x y : Int} {bs : List Int} : ([x] ++ be y 8 ++ bs)[0]?.getD 0 = x := by simp
theorem puz_put (x y : Int) (bs : List Int) (w : World) (hx : 0 ≤ x ∧ x ≤ 255) (hy : 0 ≤ y ∧ y ≤ 18446744073709551615) (hl : bs.length = 32) (hb : ∀ u ∈ bs, 0 ≤ u ∧ u ≤ 255) : Calls Tryz.prog 29 #[.agg (puzP x y bs).toArray] w (NewRd w 41 ([x] ++ be y 8 ++ bs)) :=
  (putPuz_any x y bs w hx hy hl hb).mono fun e w' ⟨g, hg, he, r, hB⟩ => ⟨g, 41, he, Nat.le_refl _, r, hB⟩
/-- What GetPuzzle tells of a puzzle's bytes. -/
def PuzT (x : Int) (V : List Value) (Z : List Value) (E : Int) : Prop := Z.length = 34 ∧ (∀ v ∈ Z, v.oneCell' = true) ∧ ((x ≤ 12 ∧ Z = V ∧ E = 0) ∨ (12 < x ∧ E = 4))
theorem puzP_len (x y : Int) (bs : List Int) (hl : bs.length = 32) : (puzP x y bs).length = 34 := by simp [puzP, hl]
theorem puzP_one (x y : Int) (bs : List Int) : ∀ v ∈ puzP x y bs, v.oneCell' = true := fun v hv => by
  rcases List.mem_append.1 hv with h | h
  · simp at h; rcases h with rfl | rfl <;> rfl
  · exact one_ints v h
theorem puz_got (x y : Int) (bs : List Int) (g cc : Nat) (W : World) (hy : 0 ≤ y ∧ y ≤ 18446744073709551615) (hl : bs.length = 32) (r : Rd W .u8 (some ⟨g, 0, none⟩) 41 ([x] ++ be y 8 ++ bs)) (l : 41 ≤ cc) :
    Calls Tryz.prog 10 #[.slice (some ⟨g, 0, none⟩) 41 cc] W fun e w' => ∃ Z E, e = .returned (.tuple #[.agg Z.toArray, .int .i64 E]) ∧ PuzT x (puzP x y bs) Z E ∧ Below W.heap.size W w' :=
  (getpuz_any (some ⟨g, 0, none⟩) 41 cc _ W r l (by simp)).mono fun e w' ⟨h, hB⟩ => by
    rw [head_puz0, puz_back0 hy hl] at h
    rcases h with ⟨⟨_, h1⟩, h⟩ | ⟨h1, h⟩
    · exact ⟨_, 0, h, ⟨puzP_len x y bs hl, puzP_one x y bs, .inl ⟨of_decide_eq_true h1, rfl, rfl⟩⟩, hB⟩
    · refine ⟨_, 4, h, ⟨by rfl, by decide, .inr ⟨?_, rfl⟩⟩, hB⟩
      rcases Int.lt_or_le 12 x with h2 | h2
      · exact h2
      · exact absurd ⟨rfl, decide_eq_true h2⟩ h1
theorem sol_put (x y : Int) (bs cs : List Int) (w : World) (hx : 0 ≤ x ∧ x ≤ 255) (hy : 0 ≤ y ∧ y ≤ 18446744073709551615) (hl : bs.length = 32) (hb : ∀ u ∈ bs, 0 ≤ u ∧ u ≤ 255) (hl2 : cs.length = 32) (hb2 : ∀ u ∈ cs, 0 ≤ u ∧ u ≤ 255) :
    Calls Tryz.prog 27 #[.agg (puzP x y bs).toArray, .agg (cs.map (Value.int .u8)).toArray] w (NewRd w 73 ([x] ++ be y 8 ++ bs ++ cs)) :=
  (putSol_any x y bs cs w hx hy hl hb hl2 hb2).mono fun e w' ⟨g, hg, he, r, hB⟩ => ⟨g, 73, he, Nat.le_refl _, r, hB⟩
/-- What GetSolution tells of its bytes. -/
def SolT (x : Int) (V : List Value) (C : List Value) (Z Y : List Value) (E : Int) : Prop := Z.length = 34 ∧ (∀ v ∈ Z, v.oneCell' = true) ∧ Y.length = 32 ∧ (∀ v ∈ Y, v.oneCell' = true) ∧ ((x ≤ 12 ∧ Z = V ∧ Y = C ∧ E = 0) ∨ (12 < x ∧ E = 4))
theorem sol_got (x y : Int) (bs cs : List Int) (g cc : Nat) (W : World) (hy : 0 ≤ y ∧ y ≤ 18446744073709551615) (hl : bs.length = 32) (hl2 : cs.length = 32) (r : Rd W .u8 (some ⟨g, 0, none⟩) 73 ([x] ++ be y 8 ++ bs ++ cs)) (l : 73 ≤ cc) :
    Calls Tryz.prog 12 #[.slice (some ⟨g, 0, none⟩) 73 cc] W fun e w' => ∃ Z Y E, e = .returned (.tuple #[.agg Z.toArray, .agg Y.toArray, .int .i64 E]) ∧ SolT x (puzP x y bs) (cs.map (Value.int .u8)) Z Y E ∧ Below W.heap.size W w' :=
  (getsol_any (some ⟨g, 0, none⟩) 73 cc _ W r l (by simp)).mono fun e w' ⟨h, hB⟩ => by
    unfold SolAns at h
    rw [head_puz, puz_back hy hl, sol_drop hl] at h
    rcases h with ⟨⟨_, h1⟩, h⟩ | ⟨h1, h⟩
    · exact ⟨_, _, 0, h, ⟨puzP_len x y bs hl, puzP_one x y bs, by simp [hl2], one_ints, .inl ⟨h1, rfl, rfl, rfl⟩⟩, hB⟩
    · refine ⟨_, _, 4, h, ⟨by rfl, by decide, by rfl, by decide, .inr ⟨?_, rfl⟩⟩, hB⟩
      rcases Int.lt_or_le 12 x with h2 | h2
      · exact h2
      · exact absurd ⟨rfl, h2⟩ h1
end Go.Proofs.YtgecfcdafbedaaaGreat
