/- The law NumsWords: small laws, and the walk's first part. -/
import Derived.Test.YtpoljlmkeldbpaaNToldP
import Derived.Test.YtpoljlmkeldbpaaOpen
import Derived.Test.YtpoljlmkeldbpaaEqInts
namespace Go.Proofs.Ytpoljlmkeldbpaa
open Go.RowKit
set_option linter.unusedSimpArgs false
set_option linter.unusedVariables false
attribute [local go_sem ↓] Go.wp_at_zero Go.wp_at_succ

theorem size_u64n : ∀ w, (sizeOf 22).run Try.prog w = .ok 1 w := fun w => by kernel_rfl
theorem long_same (a b c d : Int) (w : World) : Sem.run Try.prog (Op.equalIn 10000 29 (.agg #[.int .u64 a, .int .u64 b, .int .u64 c, .int .u64 d]) (.agg #[.int .u64 a, .int .u64 b, .int .u64 c, .int .u64 d])) w = .ok true w := by
  have := run_equalIn_ints (P := Try.prog) w 9998 29 22 4 .u64 Try.underlying29 Try.underlying22 size_u64n [a, b, c, d] [a, b, c, d] rfl rfl
  simpa using this

/-- append(v, x...) in the model, x any bytes that are read. -/
theorem run_append_bytes {w : World} (base : Nat) (ty : TypeId) (v : Value) (n : Nat) (xs : List Int) (A : Option Addr) (m c : Nat) (ys : List Int) (hr : Rd w .u8 A m ys) (hz : A = none → c = 0)
    (HO : w.ownsRow base 5 1 v n (xs.map (Value.int .u8))) (hbase : base ≤ w.heap.size) (hl : n + m ≤ 140737488355328) :
    ∃ v1 w1, (Builtin.append_ #[23, 23] ty #[v, .slice A m c]).run Try.prog w = .ok v1 w1 ∧ w1.ownsRow base 5 1 v1 (n + m) ((xs ++ ys).map (Value.int .u8)) ∧ w.grownBy w1 v.ownBlock ∧ (v1.ownBlock = v.ownBlock ∨ v1.ownBlock = some w.heap.size) := by
  obtain ⟨i0, hi, hzz⟩ := Option.map_eq_some_iff.1 info_u8n
  simp only [Prod.mk.injEq] at hzz
  obtain ⟨hz0, hz1, hz2⟩ := hzz
  cases A with
  | none =>
    obtain rfl := hz rfl
    obtain rfl : m = 0 := by
      rcases Nat.eq_zero_or_pos m with h | h
      · exact h
      · obtain ⟨_, _, e, _⟩ := hr.row h; cases e
    obtain rfl : ys = [] := List.eq_nil_of_length_eq_zero hr.len
    exact ⟨v, w, run_append_owned_none w base 23 _ 5 i0 1 Try.underlying23 hi v n _ HO, by simpa using HO, ⟨rfl, rfl, rfl, Nat.le_refl _, fun _ _ _ => rfl⟩, .inl rfl⟩
  | some ad =>
    have hnews : ∀ j u, (ys.map (Value.int .u8))[j]? = some u → w.cell? (ad.add j) = some u := by
      intro j u hj
      have hjl : j < ys.length := by
        rcases Nat.lt_or_ge j ys.length with h | h
        · exact h
        · rw [List.getElem?_eq_none (by simpa using h)] at hj; cases hj
      obtain ⟨b, off, e, _, hc⟩ := hr.row (by rw [← hr.len]; omega)
      injection e with e
      subst e
      have ha : (⟨b, off, none⟩ : Addr).add j = ⟨b, off + j, none⟩ := by unfold Addr.add; split <;> simp_all
      rw [ha, hc j (by rw [← hr.len]; exact hjl)]
      simpa [hjl] using hj
    obtain ⟨v', w', hr, h2, h3, _, h5⟩ := run_append_own_at (P := Try.prog) w base 23 ty 5 i0 (.int .u8 0) 1 1 Try.underlying23 hi hz0 hz1 hz2 rfl (by omega) v n _ HO ad m c (ys.map (Value.int .u8)) (by simp [hr.len]) hnews (one_u8 _) (by unfold maxLen; omega) (by omega) hbase
    exact ⟨v', w', hr, by simpa using h2, h3, h5⟩
/-- The same as a step of a region that draws its order. -/
theorem step_append_bytes {ops : Array Oper} {o : Oper} {a : Act} {w : World} {K : Act → World → Prop} {Q : Exit → Act → World → Prop} {E : Prop} (base : Nat)
    (hgd : o.guard = none) (s x : Operand) (ho : o.op = .call { callee := .builtin .append, args := #[s, x], argTypes := #[23, 23] })
    (v : Value) (n : Nat) (xs : List Int) (hs : a.eval s = v) (A : Option Addr) (m c : Nat) (ys : List Int) (hx : a.eval x = .slice A m c) (hr : Rd w .u8 A m ys) (hz : A = none → c = 0)
    (HO : w.ownsRow base 5 1 v n (xs.map (Value.int .u8))) (hbase : base ≤ w.heap.size) (hl : n + m ≤ 140737488355328)
    (h : ∀ v1 w1, Hid (w1.ownsRow base 5 1 v1 (n + m) ((xs ++ ys).map (Value.int .u8))) → w.grownBy w1 v.ownBlock → (v1.ownBlock = v.ownBlock ∨ v1.ownBlock = some w.heap.size) → K (a.put o.dst v1) w1) :
    if Region.wanted o (yielded ops a.tmps) = true then Oper.wp Try.prog o a w K Q else E := by
  have hw : Region.wanted o (yielded ops a.tmps) = true := by simp [Region.wanted, hgd]
  rw [if_pos hw]
  obtain ⟨v1, w1, hrun, h2, h3, h5⟩ := run_append_bytes base o.type v n xs A m c ys hr hz HO hbase hl
  unfold Oper.wp execOp
  simp only [ho, resolve, invoke, builtin, Sem.run_bind, Sem.run_pure, Result.andThen_ok, List.map_toArray, List.map_cons, List.map_nil, hs, hx, hrun]
  exact h v1 w1 (Lib.hid h2) h3 h5
end Go.Proofs.Ytpoljlmkeldbpaa
