/- Parts of bytes: b[k:], b[k:m]; Parts of bytes; the walks over slices.Clone, slices.IndexFunc, slices.ContainsFunc at bytes; a scope with a label to which the code jumps back. -/
import Derived.Test.YtjikjdignhdipaaGreatDoorYRPacketsGet3
import Derived.Lib.SliceRun
import Derived.Test.YtjikjdignhdipaaGreatDoorYRPacketsGet7
import Derived.ScopeJumps
import Derived.WalkMore
namespace Go.Proofs.YtjikjdignhdipaaGreatDoor
open Go.RowKit
set_option linter.unusedSimpArgs false
set_option linter.unusedVariables false

/-- b[k:]. -/
theorem slice_from (A : Option Addr) (n c k : Nat) (h : k ≤ n) (hc : n ≤ c) (hz : A = none → c = 0) : ∃ A', (∀ W : World, (Instr.slice 31 (.slice A n c) (some (.int .i64 (k : Int))) none none).run Tryz.prog W = .ok (.slice A' (n - k) (c - k)) W) ∧
    (∀ (W : World) (xs : List Int), Rd W .u8 A n xs → Rd W .u8 A' (n - k) (xs.drop k)) ∧ (A' = none → c - k = 0) := by
  refine ⟨if c = k then A else A.map (·.add (k * 1)), fun W => ?_, fun W xs hr => ?_, ?_⟩
  · rw [run_slice_l W 31 A n c (by kernel_rfl) .i64 (k : Int) (by omega) (by omega), show (sizeOf (Tryz.prog.elem 31)).run Tryz.prog W = .ok 1 W from by kernel_rfl]
    simp only [Result.andThen, sliced, Int.toNat_natCast]
  · refine ⟨by simp [hr.len], by have := hr.big; omega, fun x hx => hr.wf x (List.mem_of_mem_drop hx), fun h0 => ?_⟩
    obtain ⟨b, off, rfl, hb, hcell⟩ := hr.row (by omega)
    rw [if_neg (by omega)]
    have ha : (⟨b, off, none⟩ : Addr).add (k * 1) = ⟨b, off + k, none⟩ := by unfold Addr.add; split <;> simp_all
    refine ⟨b, off + k, congrArg some ha, hb, fun j hj => ?_⟩
    rw [Nat.add_assoc, hcell (k + j) (by omega)]
    simp
  · intro e
    by_cases h1 : c = k
    · omega
    · rw [if_neg h1] at e
      cases A with
      | none => have := hz rfl; omega
      | some a => simp at e
/-- b[k:m]. -/
theorem slice_mid (A : Option Addr) (n c k m : Nat) (h : k ≤ m) (hm : m ≤ n) (hc : n ≤ c) (hz : A = none → c = 0) : ∃ A', (∀ W : World, (Instr.slice 31 (.slice A n c) (some (.int .i64 (k : Int))) (some (.int .i64 (m : Int))) none).run Tryz.prog W = .ok (.slice A' (m - k) (c - k)) W) ∧
    (∀ (W : World) (xs : List Int), Rd W .u8 A n xs → Rd W .u8 A' (m - k) ((xs.drop k).take (m - k))) ∧ (A' = none → c - k = 0) := by
  refine ⟨if c = k then A else A.map (·.add (k * 1)), fun W => ?_, fun W xs hr => ?_, ?_⟩
  · rw [run_slice_lh W 31 A n c (by kernel_rfl) .i64 .i64 (k : Int) (m : Int) (by omega) (by omega) (by omega), show (sizeOf (Tryz.prog.elem 31)).run Tryz.prog W = .ok 1 W from by kernel_rfl]
    simp only [Result.andThen, sliced, Int.toNat_natCast]
  · refine ⟨by simp [hr.len]; omega, by have := hr.big; omega, fun x hx => hr.wf x (List.mem_of_mem_drop (List.mem_of_mem_take hx)), fun h0 => ?_⟩
    obtain ⟨b, off, rfl, hb, hcell⟩ := hr.row (by omega)
    rw [if_neg (by omega)]
    have ha : (⟨b, off, none⟩ : Addr).add (k * 1) = ⟨b, off + k, none⟩ := by unfold Addr.add; split <;> simp_all
    refine ⟨b, off + k, congrArg some ha, hb, fun j hj => ?_⟩
    rw [Nat.add_assoc, hcell (k + j) (by omega)]
    simp [List.getElem?_take, hj]
  · intro e
    by_cases h1 : c = k
    · omega
    · rw [if_neg h1] at e
      cases A with
      | none => have := hz rfl; omega
      | some a => simp at e
end Go.Proofs.YtjikjdignhdipaaGreatDoor

namespace Go.Proofs.YtjikjdignhdipaaGreatDoor
open Go.RowKit
set_option linter.unusedSimpArgs false
set_option linter.unusedVariables false

set_option maxHeartbeats 1000000 in
theorem clone_any (A0 : Option Addr) (n0 c0 : Nat) (bs : List Int) (w : World) (r0 : Rd w .u8 A0 n0 bs) (l0 : n0 ≤ c0) (hz : A0 = none → c0 = 0) :
    Calls Tryz.prog 85 #[.slice A0 n0 c0] w fun e w' => ∃ A c, e = .returned (.slice A n0 c) ∧ n0 ≤ c ∧ w'.ownsRow w.heap.size 5 1 (.slice A n0 c) n0 (bs.map (Value.int .u8)) ∧ (A = none → c = 0) ∧ Below w.heap.size w w' := by
  have hbig := r0.big
  have q22 : ∀ (w : World) (a : Option Addr) (n c : Nat), (binOp .eql 31 (.slice a n c) (.slice none 0 0)).run Tryz.prog w = .ok (.bool a.isNone) w := fun w a n c => Lib.run_eql_slice_nil w _ _ a n c 0 0 Tryz.underlying31
  cases A0 with
  | none =>
    obtain rfl := hz rfl
    obtain rfl : n0 = 0 := by omega
    obtain rfl : bs = [] := List.eq_nil_of_length_eq_zero r0.len
    go_enter Tryz.func85, Tryz.ntmps85
    go_wp2_with fail
    go_ret
    exact ⟨none, 0, rfl, own_nil _ _ _ _, fun _ => rfl, Below.refl _ _⟩
  | some ad =>
    have hR := Lib.hid (r0.below (new_below w (.cells #[] 5)))
    have hO : (w.alloc (.cells #[] 5)).ownsRow w.heap.size 5 1 (.slice (some ⟨w.heap.size, 0, none⟩) 0 0) 0 (([] : List Int).map (Value.int .u8)) :=
      ⟨by simp, .inr ⟨_, 0, #[], rfl, Nat.le_refl _, heap_alloc_new w _, Nat.le_refl _, Nat.zero_le _, by simp, by simp⟩⟩
    have HO := Lib.hid hO
    clear hO r0 hz
    go_enter Tryz.func85, Tryz.ntmps85
    go_wp2_with (at_builtin; refine append_bytes w.heap.size rfl _ _ rfl (.slice (some ⟨w.heap.size, 0, none⟩) 0 0) 0 [] rfl (some ad) n0 c0 bs rfl hR.out (fun e => by cases e) HO.out (by simp) (by omega) ?_; intro v1 w1 ho1 hg1 hat1; rw [Nat.zero_add, List.nil_append] at ho1; obtain ⟨A1, c1, rfl, hc1, hm1, hs1⟩ := own_slice ho1.out)
    go_ret
    refine ⟨A1, c1, rfl, hc1, ho1.out, ?_, ?_⟩
    · intro e
      subst e
      rcases ho1.out.2 with ⟨h, _⟩ | ⟨_, _, _, h, _⟩
      · injection h
      · cases h
    · exact grown_below (v := .slice (some ⟨w.heap.size, 0, none⟩) 0 0) (new_below _ _) hg1 HO.out (Nat.le_refl _)

theorem not0_any (x : Int) (w : World) : Calls Tryz.prog 134 #[.int .u8 x] w fun e w' => e = .returned (.bool (decide (x ≠ 0))) ∧ w = w' := by
  by_cases h : x = 0
  · subst h
    go_enter Tryz.func134, Tryz.ntmps134
    go_wp2_with fail
    go_ret
    exact ⟨rfl, rfl⟩
  · go_enter Tryz.func134, Tryz.ntmps134
    go_wp2_with fail
    go_ret
    exact ⟨ret_bool (by simp [h]), rfl⟩

set_option maxHeartbeats 1000000 in
theorem idx0_any (A0 : Option Addr) (n0 c0 : Nat) (bs : List Int) (w : World) (r0 : Rd w .u8 A0 n0 bs) (l0 : n0 ≤ c0) :
    Calls Tryz.prog 140 #[.slice A0 n0 c0, .func (.func 134) #[] #[]] w fun e w' => ∃ r : Int, e = .returned (.int .i64 r) ∧ (decide (0 ≤ r) = bs.any (fun x => decide (x ≠ 0))) ∧ w = w' := by
  have hbig := r0.big
  have hl := r0.len
  go_enter Tryz.func140, Tryz.ntmps140
  go_wp2_with fail
  go_loopw [8] (fun i wr => ∃ k : Nat, k ≤ n0 ∧ i = .int .i64 k ∧ (∀ j, j < k → bs[j]? = some 0) ∧ w = wr) (fun i _ => n0 - (intOf i).toNat)
  case atStart => exact ⟨0, Nat.zero_le _, rfl, fun j hj => absurd hj (by omega), rfl⟩
  case round =>
    obtain ⟨k, hk, rfl, hpre, rfl⟩ := hrel
    by_cases hlt : k < n0
    · obtain ⟨b, off, rfl, _, hc⟩ := r0.row (by omega)
      have hcj := hc k hlt
      have hx : bs[k]? = some (bs[k]?.getD 0) := by rw [List.getElem?_eq_getElem (by omega)]; rfl
      generalize bs[k]?.getD 0 = x at *
      have i0 : (0 : Int) ≤ (k : Int) := by omega
      have i1 : (k : Int) < (n0 : Int) := by omega
      have HPRE := Lib.hid hpre
      have HX := Lib.hid hx
      clear hpre hx hc
      by_cases hx0 : x = 0
      · subst hx0
        go_wp2_with fail
        refine (not0_any 0 _).mono ?_; rintro e w1 ⟨rfl, rfl⟩
        go_wp2_with fail
        refine ⟨⟨k + 1, by omega, by go_num, fun j hj => ?_, trivial⟩, by simp [intOf]; omega⟩
        rcases Nat.lt_or_ge j k with h | h
        · exact HPRE.out j h
        · obtain rfl : j = k := by omega
          exact HX.out
      · have hnz := not0_any x
        rw [show decide (x ≠ 0) = true by simp [hx0]] at hnz
        go_wp2_with fail
        refine (hnz _).mono ?_; rintro e w1 ⟨rfl, rfl⟩
        go_wp2_with fail
        go_ret
        refine ⟨k, rfl, ?_, rfl⟩
        rw [decide_eq_true (by omega), eq_comm, List.any_eq_true]
        exact ⟨x, List.mem_of_getElem? HX.out, by simp [hx0]⟩
    · obtain rfl : k = n0 := by omega
      have HPRE := Lib.hid hpre
      clear hpre
      go_wp2_with fail
      go_ret
      refine ⟨-1, rfl, ?_, rfl⟩
      rw [decide_eq_false (by omega), eq_comm, List.any_eq_false]
      intro x hx
      obtain ⟨j, hj, e⟩ := List.getElem_of_mem hx
      have := HPRE.out j (by omega)
      rw [List.getElem?_eq_getElem hj, e] at this
      injection this with this
      simp [this]

theorem has0_any (A0 : Option Addr) (n0 c0 : Nat) (bs : List Int) (w : World) (r0 : Rd w .u8 A0 n0 bs) (l0 : n0 ≤ c0) :
    Calls Tryz.prog 133 #[.slice A0 n0 c0, .func (.func 134) #[] #[]] w fun e w' => e = .returned (.bool (bs.any (fun x => decide (x ≠ 0)))) ∧ w = w' := by
  have h := idx0_any A0 n0 c0 bs w r0 l0
  go_enter Tryz.func133, Tryz.ntmps133
  go_wp2_with fail
  refine h.mono ?_; rintro e w1 ⟨r, rfl, hr, rfl⟩
  have HR := Lib.hid hr
  clear hr
  go_wp2_with fail
  go_ret
  exact ⟨ret_bool HR.out, rfl⟩

/-- A scope with a label: what holds at each arrival at it, the first one too. -/
theorem wp_scope_both {P : Program} {a : Act} {w : World} {Q : Exit → Act → World → Prop} {c B : Code} (l : Nat) (J : Act → World → Prop) (μ : Act → World → Nat) (hf : findLabel c l = some (Code.skip.seq B))
    (pass : ∀ a w, J a w → B.wp P (Exit.jump l (fun a' w' => J a' w' ∧ μ a' w' < μ a w) Q) a w)
    (first : (∀ a w, J a w → B.wp P (Exit.jump l J Q) a w) → c.wp P (Exit.jump l J Q) a w) : (Code.scope c).wp P Q a w :=
  wp_scope_jumps l J μ hf (first fun a w hJ => Code.wp_mono (fun e a w h => by cases e <;> first | exact h | exact ⟨h.1, h.2.1⟩) (pass a w hJ))
    (fun a w hJ => wp_seq (wp_skip (pass a w hJ)))
end Go.Proofs.YtjikjdignhdipaaGreatDoor
