/- The law NumsTold. -/
import Derived.Test.YtpoljlmkeldbpaaNLSplit
import Derived.Laws.BitsAllLaws
namespace Go.Proofs.Ytpoljlmkeldbpaa
open Go.RowKit
set_option linter.unusedSimpArgs false
set_option linter.unusedVariables false
attribute [local go_sem ↓] Go.wp_at_zero Go.wp_at_succ

section
variable {P : Program} {ops : Array Oper} {rest : List Oper} {o : Oper} {a : Act} {Q : Exit → Act → World → Prop}
/-- append(v, x...), x any bytes that are read. -/
theorem append_bytes {w : World} (base : Nat) (hgd : o.guard = none) (s x : Operand)
    (ho : o.op = .call { callee := .builtin .append, args := #[s, x], argTypes := #[23, 23] })
    (v : Value) (n : Nat) (xs : List Int) (hs : a.eval s = v) (A : Option Addr) (m c : Nat) (ys : List Int) (hx : a.eval x = .slice A m c) (hr : Rd w .u8 A m ys) (hz : A = none → c = 0)
    (HO : w.ownsRow base 5 1 v n (xs.map (Value.int .u8))) (hbase : base ≤ w.heap.size) (hl : n + m ≤ 140737488355328)
    (h : ∀ v1 w1, Hid (w1.ownsRow base 5 1 v1 (n + m) ((xs ++ ys).map (Value.int .u8))) → w.grownBy w1 v.ownBlock → (v1.ownBlock = v.ownBlock ∨ v1.ownBlock = some w.heap.size) → wpList Try.prog ops Q rest (a.put o.dst v1) w1) :
    wpList Try.prog ops Q (o :: rest) a w := by
  obtain ⟨i0, hi, hzz⟩ := Option.map_eq_some_iff.1 info_u8n
  simp only [Prod.mk.injEq] at hzz
  obtain ⟨hz0, hz1, hz2⟩ := hzz
  cases A with
  | none =>
    obtain rfl := hz rfl
    obtain rfl : m = 0 := by
      rcases Nat.eq_zero_or_pos m with h | h
      · exact h
      · obtain ⟨_, _, e, _⟩ := hr.row h; cases e
    obtain rfl : ys = [] := List.eq_nil_of_length_eq_zero hr.len
    refine Lib.wpList_append_run w hgd s x 23 23 ho v (.slice none 0 0) hs hx v w (run_append_owned_none w base 23 _ 5 i0 1 Try.underlying23 hi v n _ HO) ?_
    exact h v w (Lib.hid (by simpa using HO)) ⟨rfl, rfl, rfl, Nat.le_refl _, fun _ _ _ => rfl⟩ (.inl rfl)
  | some ad =>
    have hnews : ∀ j u, (ys.map (Value.int .u8))[j]? = some u → w.cell? (ad.add j) = some u := by
      intro j u hj
      have hjl : j < ys.length := by
        rcases Nat.lt_or_ge j ys.length with h | h
        · exact h
        · rw [List.getElem?_eq_none (by simpa using h)] at hj; cases hj
      obtain ⟨b, off, e, _, hc⟩ := hr.row (by rw [← hr.len]; omega)
      injection e with e
      subst e
      have ha : (⟨b, off, none⟩ : Addr).add j = ⟨b, off + j, none⟩ := by unfold Addr.add; split <;> simp_all
      rw [ha, hc j (by rw [← hr.len]; exact hjl)]
      simpa [hjl] using hj
    refine wpList_append_own_at w hgd s x 23 ho base 5 i0 (.int .u8 0) 1 1 Try.underlying23 hi hz0 hz1 hz2 rfl (by omega) v n _ hs HO ad m c (ys.map (Value.int .u8)) hx (by simp [hr.len]) hnews (one_u8 _) (by unfold maxLen; omega) (by omega) hbase ?_
    intro v3 w3 hown3 hg3 _ hat
    exact h v3 w3 (Lib.hid (by simpa using hown3)) hg3 hat
end
/-- A row of bytes of the call's own, read. -/
theorem rd_own {w : World} {base n : Nat} {g c : Nat} {xs : List Int} (h : w.ownsRow base 5 1 (.slice (some ⟨g, 0, none⟩) n c) n (xs.map (Value.int .u8))) (hb : ∀ x ∈ xs, 0 ≤ x ∧ x ≤ 255) (hn : n ≤ 140737488351232) : Rd w .u8 (some ⟨g, 0, none⟩) n xs := by
  obtain ⟨hl, A, c', e, _, _, hrow⟩ := own_ints h
  injection e with e _ _
  subst e
  exact ⟨hl, hn, bytes_wf hb, fun h0 => by
    obtain ⟨g', e', _, hlt, hc⟩ := hrow h0
    injection e' with e'
    injection e' with e'
    subst e'
    exact ⟨g, 0, rfl, hlt, fun j hj => by rw [Nat.zero_add]; exact hc j hj⟩⟩

theorem or_add (X b : Int) (i : Nat) (hX : 0 ≤ X) (hX1 : X < 18446744073709551616) (hd : X % 2 ^ i = 0) (hb0 : 0 ≤ b) (hb : b < 2 ^ i) (hb1 : b < 18446744073709551616) : bits .or .u64 X b = X + b := by
  rw [u64_or X b hX hX1 hb0 hb1]
  obtain ⟨x, rfl⟩ := Int.eq_ofNat_of_zero_le hX
  obtain ⟨y, rfl⟩ := Int.eq_ofNat_of_zero_le hb0
  have h2 : ((2 ^ i : Nat) : Int) = (2 : Int) ^ i := by simp
  rw [← h2] at hd hb
  have hd' : x % 2 ^ i = 0 := by
    have : ((x % 2 ^ i : Nat) : Int) = 0 := by rw [Int.natCast_emod]; exact hd
    omega
  have hb' : y < 2 ^ i := by omega
  have hx : x = 2 ^ i * (x / 2 ^ i) := by have := Nat.div_add_mod x (2 ^ i); omega
  have := Nat.two_pow_add_eq_or_of_lt hb' (x / 2 ^ i)
  rw [← hx] at this
  simp only [Int.toNat_natCast]
  rw [← this]
  simp
/-- The first four bytes, one by one. -/
theorem told4 (a b c d : Int) (l : List Int) : told ((a :: b :: c :: d :: l).take 4) = 16777216 * a + 65536 * b + 256 * c + d := by
  simp [told]; omega
/-- What is told of bytes with their own length ahead. -/
theorem gotB_put (l m : List Int) (hl : l.length < 4294967296) (hb : ∀ x ∈ l, 0 ≤ x ∧ x ≤ 255) : gotB (be l.length 4 ++ l ++ m) = some l := by
  have h4 : (be l.length 4).length = 4 := be_length 4 _
  have ht : told ((be l.length 4 ++ l ++ m).take 4) = l.length := by
    rw [List.append_assoc, List.take_append_of_le_length (by omega), List.take_of_length_le (by omega)]
    exact told_be 4 _ (by omega) (by simp [pow256]; omega)
  unfold gotB
  rw [if_neg (by simp [h4]), ht, if_neg (by simp [h4]; omega)]
  rw [List.append_assoc, List.drop_append_of_le_length (by omega), List.drop_of_length_le (by omega), List.nil_append]
  simp
theorem gotB_less (l : List Int) (hl : l.length < 4294967296) : gotB ((be l.length 4 ++ l).take (l.length + 3)) = none := by
  have h4 : (be l.length 4).length = 4 := be_length 4 _
  unfold gotB
  by_cases h0 : l.length = 0
  · rw [if_pos (by rw [List.length_take]; omega)]
  · have ht : told (((be l.length 4 ++ l).take (l.length + 3)).take 4) = l.length := by
      rw [List.take_take, Nat.min_eq_left (by omega), List.take_append_of_le_length (by omega), List.take_of_length_le (by omega)]
      exact told_be 4 _ (by omega) (by simp [pow256]; omega)
    rw [if_neg (by simp [h4]; omega), ht, if_pos (by simp [h4]; omega)]

theorem gets_any {w : World} {A : Option Addr} {n c : Nat} {zs : List Int} (r : Rd w .u8 A n zs) (l : n ≤ c) : Calls Try.prog 14 #[.slice A n c] w (GotB w zs) := getbytes_any A n c zs w r l
theorem grown_below {w0 w w' : World} {v : Value} {base : Nat} {e : TypeId} {size n : Nat} {xs : List Value} (h : Below w0.heap.size w0 w) (hg : w.grownBy w' v.ownBlock) (ho : w.ownsRow base e size v n xs) (hb : w0.heap.size ≤ base) : Below w0.heap.size w0 w' :=
  h.trans ⟨hg.os, hg.tape, hg.output, hg.size, fun i hi => hg.block i (Nat.lt_of_lt_of_le hi h.size) (fun e => by
    have := (own_base ho i e.symm).1
    omega)⟩
theorem own_some {w : World} {base n : Nat} {v : Value} {xs : List Int} (h : w.ownsRow base 5 1 v n (xs.map (Value.int .u8))) (hn : 0 < n) : ∃ g c, v = .slice (some ⟨g, 0, none⟩) n c ∧ n ≤ c ∧ base ≤ g ∧ g < w.heap.size := by
  obtain ⟨_, A, c, rfl, hc, _, hr⟩ := own_ints h
  obtain ⟨g, rfl, hb, hg, _⟩ := hr hn
  exact ⟨g, c, rfl, hc, hb, hg⟩
end Go.Proofs.Ytpoljlmkeldbpaa
