/- The check of a packet's bytes, in plain numbers; A packet's bytes, in plain numbers. -/
import Derived.Test.YtadpgodmkodgdaaBase
import Derived.Test.YtadpgodmkodgdaaXRGuidesRoom17
namespace Go.Proofs.Ytadpgodmkodgdaa
set_option linter.unusedSimpArgs false
set_option linter.unusedVariables false

/-- One round of folding. -/
def fold16 (m : Int) : Int := m % 65536 + m / 65536
/-- What a byte weighs at an even or at an odd place. -/
def heft (odd : Bool) (c : Int) : Int := if odd then c else c * 256
/-- The sum as the code makes it. -/
def chkN : Bool → Int → List Int → Int
  | _, n, [] => n
  | odd, n, c :: l => chkN (!odd) (fold16 (n + heft odd c)) l
/-- The plain sum. -/
def hefts : Bool → List Int → Int
  | _, [] => 0
  | odd, c :: l => heft odd c + hefts (!odd) l
/-- What folding leaves of a sum. -/
def canon (s : Int) : Int := if s = 0 then 0 else (s - 1) % 65535 + 1
def isB (l : List Int) : Prop := ∀ x ∈ l, 0 ≤ x ∧ x ≤ 255

theorem heft_bounds {odd : Bool} {c : Int} (h0 : 0 ≤ c) (h1 : c ≤ 255) : 0 ≤ heft odd c ∧ heft odd c ≤ 65280 := by
  unfold heft; cases odd <;> simp <;> omega
theorem hefts_nonneg : ∀ (l : List Int) (odd : Bool), isB l → 0 ≤ hefts odd l
  | [], _, _ => by simp [hefts]
  | c :: l, odd, h => by
    have h1 := h c (by simp)
    have h2 := hefts_nonneg l (!odd) (fun x hx => h x (by simp [hx]))
    have h3 := heft_bounds (odd := odd) h1.1 h1.2
    simp only [hefts]; omega
theorem canon_bounds {s : Int} (h : 0 ≤ s) : 0 ≤ canon s ∧ canon s ≤ 65535 := by unfold canon; split <;> omega
theorem canon_self {s : Int} (h : 0 ≤ s) (h1 : s ≤ 65535) : canon s = s := by unfold canon; split <;> omega
theorem fold_canon {m : Int} (h : 0 ≤ m) (h1 : m ≤ 131070) : fold16 m = canon m := by unfold fold16 canon; split <;> omega
theorem canon_add {a x : Int} (ha : 0 ≤ a) (hx : 0 ≤ x) : canon (canon a + x) = canon (a + x) := by unfold canon; repeat' split <;> omega
theorem chk_canon : ∀ (l : List Int) (odd : Bool) (n : Int), 0 ≤ n → n ≤ 65535 → isB l → chkN odd n l = canon (n + hefts odd l)
  | [], odd, n, h0, h1, _ => by simp [chkN, hefts, canon_self h0 h1]
  | c :: l, odd, n, h0, h1, h => by
    have hc := h c (by simp)
    have hh := heft_bounds (odd := odd) hc.1 hc.2
    have hl : isB l := fun x hx => h x (by simp [hx])
    have hs := hefts_nonneg l (!odd) hl
    have hf := fold_canon (m := n + heft odd c) (by omega) (by omega)
    have hb := canon_bounds (s := n + heft odd c) (by omega)
    rw [chkN, hf, chk_canon l (!odd) _ hb.1 hb.2 hl, canon_add (by omega) hs]
    simp only [hefts]; congr 1; omega
theorem chk_bounds {l : List Int} {odd : Bool} {n : Int} (h0 : 0 ≤ n) (h1 : n ≤ 65535) (h : isB l) : 0 ≤ chkN odd n l ∧ chkN odd n l ≤ 65535 := by
  have hs := hefts_nonneg l odd h
  rw [chk_canon l odd n h0 h1 h]; exact canon_bounds (by omega)
/-- The check of bytes. -/
def chk (l : List Int) : Int := 65535 - chkN false 0 l
theorem chk_is {l : List Int} (h : isB l) : chk l = 65535 - canon (hefts false l) := by rw [chk, chk_canon l false 0 (by omega) (by omega) h]; congr 2; omega
theorem hefts_append : ∀ (l m : List Int) (odd : Bool), hefts odd (l ++ m) = hefts odd l + hefts (odd != (l.length % 2 == 1)) m
  | [], m, odd => by simp [hefts]
  | c :: l, m, odd => by
    rw [List.cons_append, hefts, hefts_append l m, hefts, Int.add_assoc]
    congr 3
    simp only [List.length_cons]
    rcases Nat.mod_two_eq_zero_or_one l.length with h | h
    · rw [h, show (l.length + 1) % 2 = 1 by omega]; cases odd <;> rfl
    · rw [h, show (l.length + 1) % 2 = 0 by omega]; cases odd <;> rfl

/-- Whose turn: is the place odd? -/
def odd_ (i : Nat) : Bool := i % 2 == 1
theorem hefts_set : ∀ (l : List Int) (i : Nat) (odd : Bool) (x : Int), i < l.length → hefts odd (l.set i x) = hefts odd l - heft (odd != odd_ i) (l[i]?.getD 0) + heft (odd != odd_ i) x
  | [], i, odd, x, h => by simp at h
  | c :: l, 0, odd, x, h => by
    simp only [List.set_cons_zero, hefts, List.getElem?_cons_zero, Option.getD_some, odd_]
    cases odd <;> simp <;> omega
  | c :: l, i + 1, odd, x, h => by
    simp only [List.set_cons_succ, hefts, List.getElem?_cons_succ]
    rw [hefts_set l i (!odd) x (by simpa using h)]
    have e : ((!odd) != odd_ i) = (odd != odd_ (i + 1)) := by
      unfold odd_
      rcases Nat.mod_two_eq_zero_or_one i with h | h
      · rw [h, show (i + 1) % 2 = 1 by omega]; cases odd <;> rfl
      · rw [h, show (i + 1) % 2 = 0 by omega]; cases odd <;> rfl
    rw [e]; omega
theorem hefts_swap (l : List Int) (i k : Nat) (a b : Int) (hi : i < l.length) (hk : k < l.length) (ho : odd_ i = odd_ k) (ha : l[i]?.getD 0 = a) (hb : l[k]?.getD 0 = b) (odd : Bool) :
    hefts odd ((l.set i b).set k a) = hefts odd l := by
  rw [hefts_set _ k odd a (by simpa using hk), hefts_set l i odd b hi, ha, ho]
  have : (l.set i b)[k]?.getD 0 = b := by
    rw [List.getElem?_set]
    split
    · rename_i h; subst h; simp [hi]
    · exact hb
  rw [this]; omega
/-- The check of bytes with their own check behind them is 0. -/
theorem chk_own (l : List Int) (h : isB l) (he : l.length % 2 = 0) (a b : Int) (hab : a * 256 + b = chk l) (ha : 0 ≤ a ∧ a ≤ 255) (hb : 0 ≤ b ∧ b ≤ 255) : chk (l ++ [a, b]) = 0 := by
  have h2 : isB (l ++ [a, b]) := fun x hx => by
    rcases List.mem_append.1 hx with hx | hx
    · exact h x hx
    · simp at hx; rcases hx with rfl | rfl <;> assumption
  rw [chk_is h] at hab
  rw [chk_is h2, hefts_append, he]
  have hs := hefts_nonneg l false h
  generalize hefts false l = S at *
  have e : hefts (false != (0 == 1)) [a, b] = a * 256 + b := by simp [hefts, heft]
  rw [e, hab]
  unfold canon
  repeat' split <;> omega
theorem chk_odd (l : List Int) (h : isB l) : chk (l ++ [0]) = chk l := by
  have h2 : isB (l ++ [0]) := fun x hx => by
    rcases List.mem_append.1 hx with hx | hx
    · exact h x hx
    · simp at hx; omega
  rw [chk_is h, chk_is h2, hefts_append]
  have e : ∀ o, hefts o [0] = 0 := fun o => by cases o <;> simp [hefts, heft]
  rw [e]; simp
theorem chk_of_hefts {l m : List Int} (hl : isB l) (hm : isB m) (h : hefts false l = hefts false m) : chk l = chk m := by rw [chk_is hl, chk_is hm, h]
end Go.Proofs.Ytadpgodmkodgdaa

namespace Go.Proofs.Ytadpgodmkodgdaa
set_option linter.unusedSimpArgs false
set_option linter.unusedVariables false

/-- A packet's bytes without their check. -/
def pk0 (kind : Int) (from_ to_ l : List Int) : List Int := 1 :: kind :: (((40 + l.length : Nat) : Int) / 256 % 256) :: (((40 + l.length : Nat) : Int) % 256) :: 0 :: 0 :: 0 :: 0 :: (from_ ++ (to_ ++ l))
/-- A number in the check's place. -/
def withChk (b : List Int) (c : Int) : List Int := (b.set 4 (c / 256)).set 5 (c % 256)
/-- A packet's bytes. -/
def pkB (kind : Int) (from_ to_ l : List Int) : List Int := withChk (pk0 kind from_ to_ l) (chk (pk0 kind from_ to_ l))
/-- Are these a packet's bytes, as far as their head goes? -/
def okB (b : List Int) : Bool :=
  (decide (b[0]?.getD 0 = 1) && (decide ((1 : Int) ≤ b[1]?.getD 0) && decide (b[1]?.getD 0 ≤ 8))) && (decide (told ((b.drop 2).take 2) = b.length) && ((decide (b[6]?.getD 0 = 0) && decide (b[7]?.getD 0 = 0)) && decide (told ((b.drop 4).take 2) = chk (withChk b 0))))
/-- What Put answers. -/
def pkE (kind : Int) (ps : List Piece) : Int := if 1 ≤ kind ∧ kind ≤ 8 then (if putE ps = 0 then (if 2048 < 40 + (pieces ps).length then 3 else 0) else putE ps) else 1
/-- What Get answers. -/
def pkGetE (b : List Int) : Int := if 2048 < b.length then 3 else if b.length < 40 then 5 else if okB b = false then 4 else (paGet (b.drop 40)).1

theorem eight (b : List Int) (h : 8 ≤ b.length) : ∃ b0 b1 b2 b3 b4 b5 b6 b7 r, b = b0 :: b1 :: b2 :: b3 :: b4 :: b5 :: b6 :: b7 :: r := by
  obtain _ | ⟨b0, b⟩ := b; · simp at h
  obtain _ | ⟨b1, b⟩ := b; · simp at h
  obtain _ | ⟨b2, b⟩ := b; · simp at h
  obtain _ | ⟨b3, b⟩ := b; · simp at h
  obtain _ | ⟨b4, b⟩ := b; · simp at h
  obtain _ | ⟨b5, b⟩ := b; · simp at h
  obtain _ | ⟨b6, b⟩ := b; · simp at h
  obtain _ | ⟨b7, b⟩ := b; · simp at h
  exact ⟨_, _, _, _, _, _, _, _, _, rfl⟩
theorem told2 (a b : Int) (l : List Int) : told ((a :: b :: l).take 2) = 256 * a + b := by simp [told]
theorem isB_withChk {b : List Int} (h : isB b) {c : Int} (h0 : 0 ≤ c) (h1 : c ≤ 65535) : isB (withChk b c) := fun x hx => by
  rcases List.mem_or_eq_of_mem_set hx with hx | rfl
  · rcases List.mem_or_eq_of_mem_set hx with hx | rfl
    · exact h x hx
    · omega
  · omega
/-- Another byte: another check. -/
theorem chk_change {l : List Int} (h : isB l) {i : Nat} (hi : i < l.length) {y : Int} (hy : 0 ≤ y ∧ y ≤ 255) (hne : y ≠ l[i]?.getD 0) : chk (l.set i y) ≠ chk l := by
  have hx : 0 ≤ l[i]?.getD 0 ∧ l[i]?.getD 0 ≤ 255 := by rw [List.getElem?_eq_getElem hi]; exact h _ (List.getElem_mem hi)
  have h2 : isB (l.set i y) := fun x hx => by
    rcases List.mem_or_eq_of_mem_set hx with hx | rfl
    · exact h x hx
    · exact hy
  rw [chk_is h, chk_is h2]
  have e := hefts_set l i false y hi
  have n1 := hefts_nonneg _ false h
  have n2 := hefts_nonneg _ false h2
  generalize hefts false (l.set i y) = s at *
  generalize hefts false l = t at *
  generalize l[i]?.getD 0 = x at *
  generalize (false != odd_ i) = o at *
  have e1 : heft o x ≠ heft o y := by unfold heft; cases o <;> simp <;> omega
  have b1 := heft_bounds (odd := o) hx.1 hx.2
  have b2 := heft_bounds (odd := o) hy.1 hy.2
  generalize heft o x = p at *
  generalize heft o y = q at *
  unfold canon
  repeat' split <;> omega
/-- With one byte another one these are no packet's bytes. -/
theorem okB_change {b : List Int} (h : isB b) (h8 : 8 ≤ b.length) (hok : okB b = true) {i : Nat} (hi : i < b.length) {y : Int} (hy : 0 ≤ y ∧ y ≤ 255) (hne : y ≠ b[i]?.getD 0) : okB (b.set i y) = false := by
  cases hc : okB (b.set i y) with
  | false => rfl
  | true =>
    exfalso
    simp only [okB, Bool.and_eq_true, decide_eq_true_eq] at hok hc
    have k1 := hok.2.2.2
    have k2 := hc.2.2.2
    have hz := isB_withChk h (c := 0) (by omega) (by omega)
    obtain ⟨b0, b1, b2, b3, b4, b5, b6, b7, r, rfl⟩ := eight b h8
    by_cases h4 : i = 4
    · subst h4
      simp only [List.set_cons_succ, List.set_cons_zero, withChk, List.drop_succ_cons, List.drop_zero, told2, List.getElem?_cons_succ, List.getElem?_cons_zero, Option.getD_some] at k1 k2 hne
      omega
    · by_cases h5 : i = 5
      · subst h5
        simp only [List.set_cons_succ, List.set_cons_zero, withChk, List.drop_succ_cons, List.drop_zero, told2, List.getElem?_cons_succ, List.getElem?_cons_zero, Option.getD_some] at k1 k2 hne
        omega
      · have e1 : withChk ((b0 :: b1 :: b2 :: b3 :: b4 :: b5 :: b6 :: b7 :: r).set i y) 0 = (withChk (b0 :: b1 :: b2 :: b3 :: b4 :: b5 :: b6 :: b7 :: r) 0).set i y := by
          simp only [withChk]
          rw [List.set_comm _ _ h4, List.set_comm _ _ h5]
        have e2 : (((b0 :: b1 :: b2 :: b3 :: b4 :: b5 :: b6 :: b7 :: r).set i y).drop 4).take 2 = [b4, b5] := by
          apply List.ext_getElem?
          intro j
          rw [List.getElem?_take, List.getElem?_drop]
          rcases j with _ | _ | j
          · rw [if_pos (by omega), List.getElem?_set_ne h4]; rfl
          · rw [if_pos (by omega), List.getElem?_set_ne h5]; rfl
          · rw [if_neg (by omega)]; rfl
        rw [e1, e2] at k2
        have e3 : ((b0 :: b1 :: b2 :: b3 :: b4 :: b5 :: b6 :: b7 :: r).drop 4).take 2 = [b4, b5] := rfl
        rw [e3] at k1
        refine chk_change hz (i := i) (by simpa [withChk] using hi) hy ?_ (k2.symm.trans k1)
        have e4 : (withChk (b0 :: b1 :: b2 :: b3 :: b4 :: b5 :: b6 :: b7 :: r) 0)[i]? = (b0 :: b1 :: b2 :: b3 :: b4 :: b5 :: b6 :: b7 :: r)[i]? := by
          unfold withChk
          rw [List.getElem?_set_ne (Ne.symm h5), List.getElem?_set_ne (Ne.symm h4)]
        rw [e4]; exact hne
/-- Other bytes' count is told in them. -/
theorem okB_len {b : List Int} (h : okB b = true) : told ((b.drop 2).take 2) = b.length := by
  simp only [okB, Bool.and_eq_true, decide_eq_true_eq] at h; exact h.2.1
theorem okB_more {b : List Int} (h8 : 8 ≤ b.length) (h : okB b = true) (m : List Int) (hm : m ≠ []) : okB (b ++ m) = false := by
  have k1 := okB_len h
  cases hc : okB (b ++ m) with
  | false => rfl
  | true =>
    exfalso
    have k2 := okB_len hc
    rw [List.drop_append_of_le_length (by omega), List.take_append_of_le_length (by simp; omega), k1, List.length_append] at k2
    have : 0 < m.length := List.length_pos_iff.2 hm
    omega
theorem okB_less {b : List Int} (h : okB b = true) (n : Nat) (h4 : 4 ≤ n) (hn : n < b.length) : okB (b.take n) = false := by
  have k1 := okB_len h
  cases hc : okB (b.take n) with
  | false => rfl
  | true =>
    exfalso
    have k2 := okB_len hc
    have e : ((b.take n).drop 2).take 2 = (b.drop 2).take 2 := by rw [List.drop_take, List.take_take, Nat.min_eq_left (by omega)]
    rw [e, k1, List.length_take] at k2
    omega

theorem pk0_byte {kind : Int} {from_ to_ l : List Int} (hk : 1 ≤ kind ∧ kind ≤ 8) (h1 : isB from_) (h2 : isB to_) (h3 : isB l) : isB (pk0 kind from_ to_ l) := fun x hx => by
  simp only [pk0, List.mem_cons, List.mem_append] at hx
  rcases hx with rfl | rfl | rfl | rfl | rfl | rfl | rfl | rfl | hx | hx | hx <;> first | omega | exact h1 x hx | exact h2 x hx | exact h3 x hx
theorem pk0_length {kind : Int} {from_ to_ l : List Int} (h1 : from_.length = 16) (h2 : to_.length = 16) : (pk0 kind from_ to_ l).length = 40 + l.length := by simp [pk0, h1, h2]; omega
theorem pkB_eq (kind : Int) (from_ to_ l : List Int) : pkB kind from_ to_ l = 1 :: kind :: (((40 + l.length : Nat) : Int) / 256 % 256) :: (((40 + l.length : Nat) : Int) % 256) :: (chk (pk0 kind from_ to_ l) / 256) :: (chk (pk0 kind from_ to_ l) % 256) :: 0 :: 0 :: (from_ ++ (to_ ++ l)) := rfl
theorem pkB_length {kind : Int} {from_ to_ l : List Int} (h1 : from_.length = 16) (h2 : to_.length = 16) : (pkB kind from_ to_ l).length = 40 + l.length := by simp [pkB_eq, h1, h2]; omega
theorem chk_range {l : List Int} (h : isB l) : 0 ≤ chk l ∧ chk l ≤ 65535 := by
  have := chk_bounds (odd := false) (n := 0) (by omega) (by omega) h
  unfold chk; omega
theorem pkB_byte {kind : Int} {from_ to_ l : List Int} (hk : 1 ≤ kind ∧ kind ≤ 8) (h1 : isB from_) (h2 : isB to_) (h3 : isB l) : isB (pkB kind from_ to_ l) := by
  have h := pk0_byte hk h1 h2 h3
  exact isB_withChk h (chk_range h).1 (chk_range h).2
theorem pkB_ok {kind : Int} {from_ to_ l : List Int} (hk : 1 ≤ kind ∧ kind ≤ 8) (h1 : isB from_) (h2 : isB to_) (h3 : isB l) (l1 : from_.length = 16) (l2 : to_.length = 16) (h4 : 40 + l.length ≤ 65535) : okB (pkB kind from_ to_ l) = true := by
  have hl := pkB_length (kind := kind) (l := l) l1 l2
  have hb := chk_range (pk0_byte hk h1 h2 h3)
  have hz : withChk (pkB kind from_ to_ l) 0 = pk0 kind from_ to_ l := rfl
  simp only [okB, Bool.and_eq_true, decide_eq_true_eq]
  rw [hl, hz, pkB_eq]
  generalize chk (pk0 kind from_ to_ l) = c at *
  simp only [List.getElem?_cons_zero, List.getElem?_cons_succ, Option.getD_some, List.drop_succ_cons, List.drop_zero, told2]
  exact ⟨⟨trivial, hk⟩, by omega, ⟨trivial, trivial⟩, by omega⟩
theorem pkB_parts {kind : Int} {from_ to_ l : List Int} (l1 : from_.length = 16) (l2 : to_.length = 16) :
    (pkB kind from_ to_ l)[1]?.getD 0 = kind ∧ ((pkB kind from_ to_ l).drop 8).take 16 = from_ ∧ ((pkB kind from_ to_ l).drop 24).take 16 = to_ ∧ (pkB kind from_ to_ l).drop 40 = l := by
  rw [pkB_eq]
  refine ⟨rfl, ?_, ?_, ?_⟩
  · simp only [List.drop_succ_cons, List.drop_zero]
    rw [List.take_append_of_le_length (by omega), List.take_of_length_le (by omega)]
  · simp only [List.drop_succ_cons]
    rw [List.drop_append_of_le_length (by omega), List.drop_of_length_le (by omega), List.nil_append, List.take_append_of_le_length (by omega), List.take_of_length_le (by omega)]
  · simp only [List.drop_succ_cons]
    rw [← List.append_assoc, List.drop_append_of_le_length (by simp; omega), List.drop_of_length_le (by simp; omega), List.nil_append]
theorem okB_back {b : List Int} (hb : isB b) (h40 : 40 ≤ b.length) (hm : b.length ≤ 2048) (h : okB b = true) :
    (1 : Int) ≤ b[1]?.getD 0 ∧ b[1]?.getD 0 ≤ 8 ∧ pkB (b[1]?.getD 0) ((b.drop 8).take 16) ((b.drop 24).take 16) (b.drop 40) = b := by
  simp only [okB, Bool.and_eq_true, decide_eq_true_eq] at h
  obtain ⟨⟨e0, e1, e2⟩, e3, ⟨e6, e7⟩, e4⟩ := h
  have hcr := chk_range (isB_withChk hb (c := 0) (by omega) (by omega))
  obtain ⟨b0, b1, b2, b3, b4, b5, b6, b7, r, rfl⟩ := eight b (by omega)
  have c2 := hb b2 (by simp)
  have c3 := hb b3 (by simp)
  have c4 := hb b4 (by simp)
  have c5 := hb b5 (by simp)
  simp only [List.getElem?_cons_zero, List.getElem?_cons_succ, Option.getD_some, List.drop_succ_cons, List.drop_zero, told2] at e0 e1 e2 e3 e6 e7 e4 ⊢
  refine ⟨e1, e2, ?_⟩
  subst e0 e6 e7
  have hr : (r.take 16 ++ ((r.drop 16).take 16 ++ r.drop 32)) = r := by
    rw [show r.drop 32 = (r.drop 16).drop 16 by rw [List.drop_drop], List.take_append_drop, List.take_append_drop]
  have hlr : (r.drop 32).length = r.length - 32 := by simp
  simp only [List.length_cons] at h40 hm e3
  have hp : pk0 b1 (r.take 16) ((r.drop 16).take 16) (r.drop 32) = withChk (1 :: b1 :: b2 :: b3 :: b4 :: b5 :: 0 :: 0 :: r) 0 := by
    unfold pk0
    rw [hr, hlr, show ((40 + (r.length - 32) : Nat) : Int) / 256 % 256 = b2 by omega, show ((40 + (r.length - 32) : Nat) : Int) % 256 = b3 by omega]
    rfl
  rw [pkB, hp, ← e4]
  simp only [withChk, List.set_cons_succ, List.set_cons_zero]
  rw [show (256 * b4 + b5) / 256 = b4 by omega, show (256 * b4 + b5) % 256 = b5 by omega]
end Go.Proofs.Ytadpgodmkodgdaa
