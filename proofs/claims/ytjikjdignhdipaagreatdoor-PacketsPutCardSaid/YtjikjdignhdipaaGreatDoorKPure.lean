/- The check of a packet's bytes, in plain numbers. -/
import Derived.Test.YtjikjdignhdipaaGreatDoorBase
namespace Go.Proofs.YtjikjdignhdipaaGreatDoor
set_option linter.unusedSimpArgs false
set_option linter.unusedVariables false

/-- One round of folding. -/
def fold16 (m : Int) : Int := m % 65536 + m / 65536
/-- What a byte weighs at an even or at an odd place. -/
def heft (odd : Bool) (c : Int) : Int := if odd then c else c * 256
/-- The sum as the code makes it. -/
def chkN : Bool → Int → List Int → Int
  | _, n, [] => n
  | odd, n, c :: l => chkN (!odd) (fold16 (n + heft odd c)) l
/-- The plain sum. -/
def hefts : Bool → List Int → Int
  | _, [] => 0
  | odd, c :: l => heft odd c + hefts (!odd) l
/-- What folding leaves of a sum. -/
def canon (s : Int) : Int := if s = 0 then 0 else (s - 1) % 65535 + 1
def isB (l : List Int) : Prop := ∀ x ∈ l, 0 ≤ x ∧ x ≤ 255

theorem heft_bounds {odd : Bool} {c : Int} (h0 : 0 ≤ c) (h1 : c ≤ 255) : 0 ≤ heft odd c ∧ heft odd c ≤ 65280 := by
  unfold heft; cases odd <;> simp <;> omega
theorem hefts_nonneg : ∀ (l : List Int) (odd : Bool), isB l → 0 ≤ hefts odd l
  | [], _, _ => by simp [hefts]
  | c :: l, odd, h => by
    have h1 := h c (by simp)
    have h2 := hefts_nonneg l (!odd) (fun x hx => h x (by simp [hx]))
    have h3 := heft_bounds (odd := odd) h1.1 h1.2
    simp only [hefts]; omega
theorem canon_bounds {s : Int} (h : 0 ≤ s) : 0 ≤ canon s ∧ canon s ≤ 65535 := by unfold canon; split <;> omega
theorem canon_self {s : Int} (h : 0 ≤ s) (h1 : s ≤ 65535) : canon s = s := by unfold canon; split <;> omega
theorem fold_canon {m : Int} (h : 0 ≤ m) (h1 : m ≤ 131070) : fold16 m = canon m := by unfold fold16 canon; split <;> omega
theorem canon_add {a x : Int} (ha : 0 ≤ a) (hx : 0 ≤ x) : canon (canon a + x) = canon (a + x) := by unfold canon; repeat' split <;> omega
theorem chk_canon : ∀ (l : List Int) (odd : Bool) (n : Int), 0 ≤ n → n ≤ 65535 → isB l → chkN odd n l = canon (n + hefts odd l)
  | [], odd, n, h0, h1, _ => by simp [chkN, hefts, canon_self h0 h1]
  | c :: l, odd, n, h0, h1, h => by
    have hc := h c (by simp)
    have hh := heft_bounds (odd := odd) hc.1 hc.2
    have hl : isB l := fun x hx => h x (by simp [hx])
    have hs := hefts_nonneg l (!odd) hl
    have hf := fold_canon (m := n + heft odd c) (by omega) (by omega)
    have hb := canon_bounds (s := n + heft odd c) (by omega)
    rw [chkN, hf, chk_canon l (!odd) _ hb.1 hb.2 hl, canon_add (by omega) hs]
    simp only [hefts]; congr 1; omega
theorem chk_bounds {l : List Int} {odd : Bool} {n : Int} (h0 : 0 ≤ n) (h1 : n ≤ 65535) (h : isB l) : 0 ≤ chkN odd n l ∧ chkN odd n l ≤ 65535 := by
  have hs := hefts_nonneg l odd h
  rw [chk_canon l odd n h0 h1 h]; exact canon_bounds (by omega)
/-- The check of bytes. -/
def chk (l : List Int) : Int := 65535 - chkN false 0 l
theorem chk_is {l : List Int} (h : isB l) : chk l = 65535 - canon (hefts false l) := by rw [chk, chk_canon l false 0 (by omega) (by omega) h]; congr 2; omega
theorem hefts_append : ∀ (l m : List Int) (odd : Bool), hefts odd (l ++ m) = hefts odd l + hefts (odd != (l.length % 2 == 1)) m
  | [], m, odd => by simp [hefts]
  | c :: l, m, odd => by
    rw [List.cons_append, hefts, hefts_append l m, hefts, Int.add_assoc]
    congr 3
    simp only [List.length_cons]
    rcases Nat.mod_two_eq_zero_or_one l.length with h | h
    · rw [h, show (l.length + 1) % 2 = 1 by omega]; cases odd <;> rfl
    · rw [h, show (l.length + 1) % 2 = 0 by omega]; cases odd <;> rfl

/-- Whose turn: is the place odd? -/
def odd_ (i : Nat) : Bool := i % 2 == 1
theorem hefts_set : ∀ (l : List Int) (i : Nat) (odd : Bool) (x : Int), i < l.length → hefts odd (l.set i x) = hefts odd l - heft (odd != odd_ i) (l[i]?.getD 0) + heft (odd != odd_ i) x
  | [], i, odd, x, h => by simp at h
  | c :: l, 0, odd, x, h => by
    simp only [List.set_cons_zero, hefts, List.getElem?_cons_zero, Option.getD_some, odd_]
    cases odd <;> simp <;> omega
  | c :: l, i + 1, odd, x, h => by
    simp only [List.set_cons_succ, hefts, List.getElem?_cons_succ]
    rw [hefts_set l i (!odd) x (by simpa using h)]
    have e : ((!odd) != odd_ i) = (odd != odd_ (i + 1)) := by
      unfold odd_
      rcases Nat.mod_two_eq_zero_or_one i with h | h
      · rw [h, show (i + 1) % 2 = 1 by omega]; cases odd <;> rfl
      · rw [h, show (i + 1) % 2 = 0 by omega]; cases odd <;> rfl
    rw [e]; omega
theorem hefts_swap (l : List Int) (i k : Nat) (a b : Int) (hi : i < l.length) (hk : k < l.length) (ho : odd_ i = odd_ k) (ha : l[i]?.getD 0 = a) (hb : l[k]?.getD 0 = b) (odd : Bool) :
    hefts odd ((l.set i b).set k a) = hefts odd l := by
  rw [hefts_set _ k odd a (by simpa using hk), hefts_set l i odd b hi, ha, ho]
  have : (l.set i b)[k]?.getD 0 = b := by
    rw [List.getElem?_set]
    split
    · rename_i h; subst h; simp [hi]
    · exact hb
  rw [this]; omega
/-- The check of bytes with their own check behind them is 0. -/
theorem chk_own (l : List Int) (h : isB l) (he : l.length % 2 = 0) (a b : Int) (hab : a * 256 + b = chk l) (ha : 0 ≤ a ∧ a ≤ 255) (hb : 0 ≤ b ∧ b ≤ 255) : chk (l ++ [a, b]) = 0 := by
  have h2 : isB (l ++ [a, b]) := fun x hx => by
    rcases List.mem_append.1 hx with hx | hx
    · exact h x hx
    · simp at hx; rcases hx with rfl | rfl <;> assumption
  rw [chk_is h] at hab
  rw [chk_is h2, hefts_append, he]
  have hs := hefts_nonneg l false h
  generalize hefts false l = S at *
  have e : hefts (false != (0 == 1)) [a, b] = a * 256 + b := by simp [hefts, heft]
  rw [e, hab]
  unfold canon
  repeat' split <;> omega
theorem chk_odd (l : List Int) (h : isB l) : chk (l ++ [0]) = chk l := by
  have h2 : isB (l ++ [0]) := fun x hx => by
    rcases List.mem_append.1 hx with hx | hx
    · exact h x hx
    · simp at hx; omega
  rw [chk_is h, chk_is h2, hefts_append]
  have e : ∀ o, hefts o [0] = 0 := fun o => by cases o <;> simp [hefts, heft]
  rw [e]; simp
theorem chk_of_hefts {l m : List Int} (hl : isB l) (hm : isB m) (h : hefts false l = hefts false m) : chk l = chk m := by rw [chk_is hl, chk_is hm, h]
end Go.Proofs.YtjikjdignhdipaaGreatDoor
