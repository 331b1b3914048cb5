/- The walks over the reference's window (burrowref18): all numbers that came are kept. -/
import Derived.Test.YtoghekehaiglkaaOwn
namespace Go.Proofs.Ytoghekehaiglkaa
open Go.RowKit
set_option linter.unusedSimpArgs false
set_option linter.unusedVariables false

/-- The reference's window in block b: its list is the value v. -/
structure RWin (w : World) (base b : Nat) (v : Value) (l : List Int) (top : Int) : Prop where
  row : Blk w b 47 [v, .int .u64 top]
  own : w.ownsRow base 22 1 v l.length (l.map (Value.int .u64))
theorem RWin.keep {M : Nat → Prop} {w w' : World} {base b : Nat} {v : Value} {l : List Int} {top : Int} (h : RWin w base b v l top) (k : Keeps M w w') (hb : ¬ M b) (hv : ∀ i, v.ownBlock = some i → ¬ M i) : RWin w' base b v l top :=
  ⟨h.row.keep k hb, k.own h.own hv⟩

/-- What the reference's Fits answers. -/
def rfits (l : List Int) (top n : Int) : Int := if n = 0 then 1 else if n < top ∧ 64 ≤ top - n then 13 else if n ∈ l then 8 else 0

set_option maxHeartbeats 400000 in
theorem rfits_any (w : World) (base b : Nat) (v : Value) (l : List Int) (top n : Int) (h : RWin w base b v l top) (h0 : 0 ≤ n) (h1 : n ≤ 18446744073709551615) (t1 : top ≤ 18446744073709551615) :
    Calls Try.prog 15 #[.pointer (some ⟨b, 0, none⟩), .int .u64 n] w fun e w' => e = .returned (.int .i64 (rfits l top n)) ∧ w = w' := by
  obtain ⟨_, A, c, rfl, hc, hm, hr⟩ := own_ints h.own
  have c0 := h.row.cell 0
  have c1 := h.row.cell 1
  simp only [List.getElem?_cons_zero, List.getElem?_cons_succ] at c0 c1
  unfold maxLen at hm
  clear h
  by_cases hz : n = 0
  · subst hz
    go_enter Try.func15, Try.ntmps15
    go_wp2
    go_ret
    exact ⟨rfl, rfl⟩
  have hz' : (n == 0) = false := by simpa using hz
  have HZ := Lib.hid hz
  clear hz
  by_cases ho : n < top ∧ 64 ≤ top - n
  · obtain ⟨o1, o2⟩ := ho
    go_enter Try.func15, Try.ntmps15
    go_wp2
    go_ret
    exact ⟨ret_int (by unfold rfits; rw [if_neg HZ.out, if_pos ⟨o1, o2⟩]), rfl⟩
  have hfin : ∀ r, (if n ∈ l then (8 : Int) else 0) = r → rfits l top n = r := fun r hr => by unfold rfits; rw [if_neg HZ.out, if_neg ho, hr]
  have HF := Lib.hid hfin
  clear hfin
  have loop : ∀ (Q : Exit → Act → World → Prop), True := fun _ => trivial
  clear loop
  by_cases o1 : n < top
  all_goals
    go_enter Try.func15, Try.ntmps15
    go_wp2
    go_loop [5] (fun i => ∃ k : Nat, k ≤ l.length ∧ i = .int .i64 k ∧ Hid (∀ j, j < k → l[j]?.getD 0 ≠ n)) (fun i => l.length - (intOf i).toNat)
    case atStart => exact ⟨0, Nat.zero_le _, rfl, fun j hj => absurd hj (by omega)⟩
    case round =>
      obtain ⟨k, hk, rfl, hno⟩ := hrel
      by_cases hlt : k < l.length
      · obtain ⟨g, rfl, _, _, hcell⟩ := hr (by omega)
        have hc1 := hcell k hlt
        obtain ⟨x, hx⟩ : ∃ x, l[k]?.getD 0 = x := ⟨_, rfl⟩
        rw [hx] at hc1
        have hmem : x ∈ l := by rw [← hx]; simp [hlt]
        have HX := Lib.hid hx
        have HIN := Lib.hid hmem
        clear hx hmem hcell hr
        by_cases he : x = n
        · subst he
          go_wp2
          go_ret
          exact ⟨ret_int (HF.out 8 (if_pos HIN.out)).symm, rfl⟩
        · have he' : (x == n) = false := by simpa using he
          have HE := Lib.hid he
          clear he
          go_wp2
          go_round
          case rel =>
            refine ⟨k + 1, by omega, by go_num, fun j hj => ?_⟩
            by_cases ej : j = k
            · subst ej; rw [HX.out]; exact HE.out
            · exact hno.out j (by omega)
          case measure => simp [intOf]; omega
      · have hout : n ∉ l := by
          intro hin
          obtain ⟨j, hj, e⟩ := List.getElem_of_mem hin
          exact hno.out j (by omega) (by simp [hj, e])
        have HOUT := Lib.hid hout
        clear hout
        go_wp2
        go_ret
        exact ⟨ret_int (HF.out 0 (if_neg HOUT.out)).symm, rfl⟩

theorem info_u64 : (Try.prog.info? 22).map (fun i => (i.zero, i.size, i.bytes)) = some (some (.int .u64 0), 1, 8) := by kernel_rfl

set_option maxHeartbeats 400000 in
theorem rtake_any (w : World) (base b : Nat) (v : Value) (l : List Int) (top n : Int) (hR : RWin w base b v l top) (hb : base ≤ b) (hlen : l.length ≤ 4294967296) (h0 : 0 ≤ n) (h1 : n ≤ 18446744073709551615) (t1 : top ≤ 18446744073709551615) :
    Calls Try.prog 16 #[.pointer (some ⟨b, 0, none⟩), .int .u64 n] w fun e w' => e = .returned (.int .i64 (rfits l top n)) ∧
      (∃ v', RWin w' base b v' (if rfits l top n = 0 then l ++ [n] else l) (if rfits l top n = 0 then max top n else top) ∧ (v'.ownBlock = v.ownBlock ∨ ∃ g, v'.ownBlock = some g ∧ w.heap.size ≤ g)) ∧ Keeps (fun i => i = b ∨ v.ownBlock = some i) w w' := by
  have hf := rfits_any w base b v l top n hR h0 h1 t1
  generalize hr : rfits l top n = r at *
  have HF := Lib.hid hf
  clear hf hr
  have c0 := hR.row.cell 0
  have c1 := hR.row.cell 1
  simp only [List.getElem?_cons_zero, List.getElem?_cons_succ] at c0 c1
  have f0 := hR.row.free 0
  have f1 := hR.row.free 1
  have hbl := hR.row.lt
  have hne := own_blk_ne hR.own hR.row (by decide)
  by_cases hz : r = 0
  · subst hz
    go_enter Try.func16, Try.ntmps16
    go_wp2_with (first
      | (go_at_call 15; refine (HF.out).mono ?_; rintro e w' ⟨rfl, rfl⟩)
      | (at_builtin
         refine append_int (W := w) base rfl _ _ 33 22 .u64 8 rfl Try.underlying33 info_u64 (by omega) v l.length l n rfl rfl hR.own (by omega) (by omega) ?_
         intro v1 w1 hown hk hat
         have hb1 := hR.row.keep hk hne
         obtain ⟨A1, q1, hv1, _⟩ := own_slice hown
         rw [hv1] at hown hat
         rw [hv1]
         have d0 := hb1.cell 0
         have d1 := hb1.cell 1
         simp only [List.getElem?_cons_zero, List.getElem?_cons_succ] at d0 d1
         have g0 := hb1.free 0
         have g1 := hb1.free 1
         have HAT := Lib.hid hat
         clear hat hv1))
    all_goals
      go_ret
      have hb2 := (hb1.put 0 (.slice A1 (l.length + 1) q1)).put 1 (.int .u64 (max top n))
      have k1 := Keeps.set1 w1 ⟨b, 0, none⟩ (.slice A1 (l.length + 1) q1)
      have k2 := k1.trans (Keeps.set1 (w1.setCell ⟨b, 0, none⟩ (.slice A1 (l.length + 1) q1)) ⟨b, 1, none⟩ (.int .u64 (max top n)))
      have o2 := k2.own hown (fun i hi e => own_blk_ne hown hb1 (by decide) (by rw [hi]; exact congrArg some e))
      have k3 := (hk.mono (M' := fun i => i = b ∨ v.ownBlock = some i) (fun i hi => .inr hi)).trans (k2.mono (M' := fun i => i = b ∨ v.ownBlock = some i) (fun i hi => .inl hi))
      simp only [List.set_cons_zero, List.set_cons_succ] at hb2
      refine ⟨rfl, ⟨_, ⟨?_, ?_⟩, HAT.out⟩, ?_⟩
      · first
          | (rw [if_pos rfl]; first | (rw [show max top n = n from by omega] at hb2 ⊢; exact hb2) | (rw [show max top n = top from by omega] at hb2 ⊢; exact hb2))
          | (first | (rw [show max top n = n from by omega] at hb2 ⊢; exact hb2) | (rw [show max top n = top from by omega] at hb2 ⊢; exact hb2))
      · simp only [List.length_append, List.length_cons, List.length_nil, Nat.zero_add]
        first | (rw [show max top n = n from by omega] at o2; exact o2) | (rw [show max top n = top from by omega] at o2; exact o2)
      · first | (rw [show max top n = n from by omega] at k3; exact k3) | (rw [show max top n = top from by omega] at k3; exact k3)
  · have hb : (r == 0) = false := by simpa using hz
    have HZ := Lib.hid hz
    clear hz
    go_enter Try.func16, Try.ntmps16
    go_wp2_with (go_at_call 15; refine (HF.out).mono ?_; rintro e w' ⟨rfl, rfl⟩)
    go_ret
    refine ⟨rfl, ⟨v, ?_, .inl rfl⟩, Keeps.refl _ _⟩
    first | exact hR | (rw [if_neg HZ.out, if_neg HZ.out]; exact hR)
theorem rtop_any (w : World) (base b : Nat) (v : Value) (l : List Int) (top : Int) (h : RWin w base b v l top) :
    Calls Try.prog 17 #[.pointer (some ⟨b, 0, none⟩)] w fun e w' => e = .returned (.int .u64 top) ∧ w = w' := by
  have c1 := h.row.cell 1
  simp only [List.getElem?_cons_zero, List.getElem?_cons_succ] at c1
  go_enter Try.func17, Try.ntmps17
  go_wp2
  go_ret
  exact ⟨rfl, rfl⟩
theorem rtaken_any (w : World) (base b : Nat) (v : Value) (l : List Int) (top : Int) (h : RWin w base b v l top) (hl : l.length ≤ 4294967296) :
    Calls Try.prog 18 #[.pointer (some ⟨b, 0, none⟩)] w fun e w' => e = .returned (.int .u64 l.length) ∧ w = w' := by
  obtain ⟨_, A, c, rfl, hc, hm, hr⟩ := own_ints h.own
  have c0 := h.row.cell 0
  simp only [List.getElem?_cons_zero, List.getElem?_cons_succ] at c0
  clear hr h
  go_enter Try.func18, Try.ntmps18
  go_wp2
  go_ret
  exact ⟨rfl, rfl⟩
theorem rnew_any (w : World) :
    Calls Try.prog 14 #[] w fun e w' => e = .returned (.pointer (some ⟨w.heap.size, 0, none⟩)) ∧ RWin w' w.heap.size w.heap.size (.slice none 0 0) [] 0 ∧ Below w.heap.size w w' := by
  go_enter Try.func14, Try.ntmps14
  go_wp2
  go_ret
  exact ⟨rfl, ⟨Blk.new _ _ _, own_nil _ _ _ _⟩, (Below.refl _ _).alloc (Nat.le_refl _) _⟩
end Go.Proofs.Ytoghekehaiglkaa
