/- A set of spots: what it holds; there, at, find. -/
import Derived.Test.YtgecfcdafbedaaaGreatDoorZRSpotsPlayUpto1
import Derived.Laws.StructEq
import Derived.Deep.RegionHeld3
namespace Go.Proofs.YtgecfcdafbedaaaGreatDoor
open Go.RowKit
set_option linter.unusedSimpArgs false
set_option linter.unusedVariables false

/-- One spot of a set: where, what is known of it (1: new, 2: sure), and the sum that it was asked with: the block that holds it, and its bytes. -/
structure Spt where
  at_ : Int
  st : Int
  sum : Option (Nat × List Int)
def sumV (s : Option (Nat × List Int)) : Value := .pointer (s.map fun q => ⟨q.1, 0, none⟩)
def spC (s : Spt) : List Value := [.int .u32 s.at_, .int .u8 s.st, sumV s.sum]
def rowS : List Spt → List Value
  | [] => []
  | s :: l => spC s ++ rowS l
theorem rowS_len : ∀ l : List Spt, (rowS l).length = 3 * l.length
  | [] => rfl
  | s :: l => by rw [rowS, List.length_append, rowS_len l, List.length_cons]; simp [spC]; omega
theorem rowS_at : ∀ (l : List Spt) (j : Nat) (s : Spt), l[j]? = some s → ∀ i, i < 3 → (rowS l)[3 * j + i]? = (spC s)[i]?
  | [], j, s, h, i, hi => by simp at h
  | x :: l, 0, s, h, i, hi => by
    simp at h; subst h
    rw [rowS, List.getElem?_append_left (by simp [spC]; omega)]; simp
  | x :: l, j + 1, s, h, i, hi => by
    rw [rowS, List.getElem?_append_right (by simp [spC]; omega)]
    have := rowS_at l j s (by simpa using h) i hi
    rw [← this]
    congr 1
    simp [spC]; omega
theorem rowS_set : ∀ (l : List Spt) (j : Nat) (s s' : Spt) (i : Nat) (v : Value), l[j]? = some s → i < 3 → (spC s).set i v = spC s' → (rowS l).set (3 * j + i) v = rowS (l.set j s')
  | [], j, s, s', i, v, h, hi, hv => by simp at h
  | x :: l, 0, s, s', i, v, h, hi, hv => by
    simp at h; subst h
    rw [Nat.mul_zero, Nat.zero_add, rowS, List.set_append_left _ _ (by simp [spC]; omega), hv]; rfl
  | x :: l, j + 1, s, s', i, v, h, hi, hv => by
    have := rowS_set l j s s' i v (by simpa using h) hi hv
    rw [rowS, List.set_append_right _ _ (by simp [spC]; omega), List.set_cons_succ, rowS, ← this]
    congr 2
    simp [spC]; omega
/-- A set of spots. -/
structure SetAt (w : World) (p g : Nat) (l : List Spt) (cr : Int) : Prop where
  set : Blk w p 77 [.slice (some ⟨g, 0, none⟩) l.length l.length, .int .i64 cr]
  row : Blk w g 74 (rowS l)
  sum : ∀ s ∈ l, ∀ q, s.sum = some q → Blk w q.1 52 (q.2.map (Value.int .u8)) ∧ q.2.length = 32
  len : 1 ≤ l.length ∧ l.length ≤ 4
  ats : ∀ s ∈ l, 0 ≤ s.at_ ∧ s.at_ ≤ 4294967295
  sts : ∀ s ∈ l, s.st = 1 ∨ s.st = 2
  cred : 0 ≤ cr ∧ cr ≤ 2048
theorem blk_ne {w : World} {g h : Nat} {s t : TypeId} {cs ds : List Value} (a : Blk w g s cs) (b : Blk w h t ds) (hne : s ≠ t) : g ≠ h := fun e => by
  subst e
  unfold Blk at a b
  rw [a] at b
  injection b with b
  injection b with _ b
  exact hne b
section
variable {w w' : World} {p g : Nat} {l : List Spt} {cr : Int}
theorem SetAt.pg (h : SetAt w p g l cr) : p ≠ g := blk_ne h.set h.row (by decide)
theorem SetAt.below (h : SetAt w p g l cr) (hB : Below w.heap.size w w') : SetAt w' p g l cr :=
  ⟨h.set.below hB h.set.lt, h.row.below hB h.row.lt, fun s hs q hq => ⟨(h.sum s hs q hq).1.below hB (h.sum s hs q hq).1.lt, (h.sum s hs q hq).2⟩, h.len, h.ats, h.sts, h.cred⟩
theorem SetAt.keep {M : Nat → Prop} (h : SetAt w p g l cr) (k : Keeps M w w') (h1 : ¬ M p) (h2 : ¬ M g) (h3 : ∀ s ∈ l, ∀ q, s.sum = some q → ¬ M q.1) : SetAt w' p g l cr :=
  ⟨h.set.keep k h1, h.row.keep k h2, fun s hs q hq => ⟨(h.sum s hs q hq).1.keep k (h3 s hs q hq), (h.sum s hs q hq).2⟩, h.len, h.ats, h.sts, h.cred⟩
theorem SetAt.range (h : SetAt w p g l cr) {j o : Nat} {s : Spt} (hs : l[j]? = some s) (ho : o = j * 3) : w.rangeAt g o (spC s) := fun i v hi => by
  have h3 : i < 3 := (List.getElem?_eq_some_iff.1 hi).1
  rw [h.row.cell, ho, Nat.mul_comm, rowS_at l j s hs i h3]
  exact hi
theorem SetAt.c0 (h : SetAt w p g l cr) : w.cell? ⟨p, 0, none⟩ = some (.slice (some ⟨g, 0, none⟩) l.length l.length) := h.set.cell 0
theorem SetAt.c1 (h : SetAt w p g l cr) : w.cell? ⟨p, 1, none⟩ = some (.int .i64 cr) := h.set.cell 1
end
theorem new_belowS (w : World) (o : Obj) : Below w.heap.size w (w.alloc o) := (Below.refl _ _).alloc (Nat.le_refl _) _
theorem there_set {p g : Nat} {l : List Spt} {cr : Int} {w : World} (h : SetAt w p g l cr) : Calls Tryz.prog 28 #[.pointer (some ⟨p, 0, none⟩)] w fun e w' => e = .returned (.bool true) ∧ w = w' := by
  have c0 := h.c0
  have hn : (0 : Int) < (l.length : Int) := by have := h.len; omega
  have hn' : 0 < l.length := h.len.1
  clear h
  go_enter Tryz.func28, Tryz.ntmps28
  go_wp2_with fail
  go_ret
  exact ⟨rfl, rfl⟩
theorem at_any (a : Int) (w : World) : Calls Tryz.prog 30 #[.int .u32 a] w fun e w' => e = .returned (.func (.func 83) #[] #[.pointer (some ⟨w.heap.size, 0, none⟩)]) ∧ w' = w.alloc (.cells #[.int .u32 a] 23) := by
  go_enter Tryz.func30, Tryz.ntmps30
  go_wp2_with fail
  go_ret
  exact ⟨rfl, rfl⟩
/-- Whether a spot is the one. -/
def isAt (a : Int) (s : Spt) : Bool := s.at_ == a
theorem atc_any (s : Spt) (a : Int) (X : Nat) (w : World) (hX : w.cell? ⟨X, 0, none⟩ = some (.int .u32 a)) : Calls Tryz.prog 83 #[.agg (spC s).toArray, .pointer (some ⟨X, 0, none⟩)] w fun e w' => e = .returned (.bool (isAt a s)) ∧ Below w.heap.size w w' := by
  have hl := World.block_lt_of_cell? w _ hX
  simp only at hl
  obtain ⟨x, y, z⟩ := s
  obtain ⟨q, hq⟩ : ∃ q, isAt a ⟨x, y, z⟩ = q := ⟨_, rfl⟩
  have HQ : Hid ((x == a) = q) := Lib.hid hq
  rw [hq]
  show Calls Tryz.prog 83 #[.agg #[.int .u32 x, .int .u8 y, sumV z], .pointer (some ⟨X, 0, none⟩)] w _
  clear hq
  obtain ⟨zv, hz⟩ : ∃ v, sumV z = v := ⟨_, rfl⟩
  rw [hz]
  clear hz
  go_enter Tryz.func83, Tryz.ntmps83
  go_wp2_with fail
  go_ret
  exact ⟨ret_bool HQ.out, new_belowS _ _⟩
theorem size_u8s : ∀ w, (sizeOf 5).run Tryz.prog w = .ok 1 w := fun w => by kernel_rfl
theorem sum_eq (f g : List Int) (hf : f.length = 32) (hg : g.length = 32) (w : World) : Sem.run Tryz.prog (Op.equalIn 10000 52 (.agg (f.map (Value.int .u8)).toArray) (.agg (g.map (Value.int .u8)).toArray)) w = .ok (f == g) w := by
  have := run_equalIn_ints (P := Tryz.prog) w 9998 52 5 32 .u8 Tryz.underlying52 Tryz.underlying5 size_u8s f g hf hg
  simpa using this
/-- Whether a spot was asked with that sum, and did not tell it back yet. -/
def isSum (bs : List Int) (s : Spt) : Bool := s.st == 1 && match s.sum with
  | none => false
  | some q => q.2 == bs
theorem exec_eqlS {P : Program} {o : Oper} {ev : Operand → Value} {w : World} {T T' : TypeId} {x y : Operand} (V U : Array Value) (q : Bool) (ho : o.op = .binOp .eql T x y T') (hx : ev x = .agg V) (hy : ev y = .agg U)
    (hm : P.eqGuardType P.depth T = false) (heq : (Op.equalIn 10000 T (.agg V) (.agg U)).run P w = .ok q w) : (execOp ev o).run P w = .ok (.value (.bool q)) w := by
  unfold execOp
  simp only [ho, hx, hy, Sem.run_bind, Sem.run_pure, run_eqGuard_agg w BinOp.eql T x y V U hm, Result.andThen_ok, run_eql_struct w T V U, heq]
theorem nog_sumS : Tryz.prog.eqGuardType Tryz.prog.depth 52 = false := by kernel_rfl
set_option maxRecDepth 100000 in
set_option maxHeartbeats 4000000 in
theorem backc_any (s : Spt) (bs : List Int) (X : Nat) (w : World) (hX : w.rangeAt X 0 (bs.map (Value.int .u8))) (hXl : X < w.heap.size) (hbs : bs.length = 32)
    (hs : ∀ q, s.sum = some q → q.1 < w.heap.size ∧ w.rangeAt q.1 0 (q.2.map (Value.int .u8)) ∧ q.2.length = 32) :
    Calls Tryz.prog 32 #[.agg (spC s).toArray, .pointer (some ⟨X, 0, none⟩)] w fun e w' => e = .returned (.bool (isSum bs s)) ∧ Below w.heap.size w w' := by
  obtain ⟨x, y, z⟩ := s
  show Calls Tryz.prog 32 #[.agg #[.int .u32 x, .int .u8 y, sumV z], .pointer (some ⟨X, 0, none⟩)] w _
  by_cases hy : y = 1
  · subst hy
    cases z with
    | none =>
      have hans : isSum bs ⟨x, 1, none⟩ = false := rfl
      rw [hans]
      have hB := new_belowS w (.cells #[.int .u32 x, .int .u8 1, .pointer none] 74)
      have hk := Blk.new w 74 [.int .u32 x, .int .u8 1, .pointer none]
      obtain ⟨w1, hw1⟩ : ∃ w1, w.alloc (.cells #[.int .u32 x, .int .u8 1, .pointer none] 74) = w1 := ⟨_, rfl⟩
      have hw1' : w.alloc (.cells [.int .u32 x, .int .u8 1, .pointer none].toArray 74) = w1 := hw1
      rw [hw1] at hB
      rw [hw1'] at hk
      have HW1 := Lib.hid hw1
      have HB := Lib.hid hB
      obtain ⟨S, hS⟩ : ∃ S, w.heap.size = S := ⟨_, rfl⟩
      rw [hS] at hk
      have k1 : w1.cell? ⟨S, 1, none⟩ = some (.int .u8 1) := hk.cell 1
      have k2 : w1.cell? ⟨S, 2, none⟩ = some (.pointer none) := hk.cell 2
      clear hw1 hw1' hB hk hs hX hXl hans
      show Calls Tryz.prog 32 #[.agg #[.int .u32 x, .int .u8 1, .pointer none], .pointer (some ⟨X, 0, none⟩)] w _
      have HS := Lib.hid hS
      clear hS
      go_enter Tryz.func32, Tryz.ntmps32
      go_wp2_with fail
      rw [HW1.out, HS.out]
      refine wp_region_noPanic ?_
      refine wp_region_held_drew (S := (fun w' => w'.cell? ⟨S, 1, none⟩ = some (.int .u8 1) ∧ w'.cell? ⟨S, 2, none⟩ = some (.pointer none))) (by kernel_rfl) ?_ (fun hHeld => ?_)
      · ((try dsimp only); refine ⟨?_, ?_⟩ <;> (first | assumption | (go_keep; done)))
      refine wpAnyH_take (i := 0) (oi := ⟨some 4, _, _, _, _, _⟩) (v := ?_) rfl (by kernel_rfl) (by kernel_rfl) (by kernel_rfl) (fun _ _ _ h => False.elim h) (Or.inl ⟨by rfl, ?_⟩) (by assumption) ?_
      rotate_left
      · intro w hSw
        (try dsimp only at hSw)
        go_simp
        all_goals with_reducible rfl
      (try simp only [Act.put, List.setIfInBounds_toArray, List.set_cons_zero, List.set_cons_succ])
      refine wpAnyH_take (i := 1) (oi := ⟨some 5, _, _, _, _, _⟩) (v := ?_) rfl (by kernel_rfl) (by kernel_rfl) (by kernel_rfl) (fun _ _ _ h => False.elim h) (Or.inl ⟨by rfl, ?_⟩) (by assumption) ?_
      rotate_left
      · intro w hSw
        (try dsimp only at hSw)
        go_simp
        all_goals with_reducible rfl
      (try simp only [Act.put, List.setIfInBounds_toArray, List.set_cons_zero, List.set_cons_succ])
      refine wpAnyH_take (i := 2) (oi := ⟨some 6, _, _, _, _, _⟩) (v := ?_) rfl (by kernel_rfl) (by kernel_rfl) (by kernel_rfl) (fun _ _ _ h => False.elim h) (Or.inl ⟨by rfl, ?_⟩) (by assumption) ?_
      rotate_left
      · intro w hSw
        (try dsimp only at hSw)
        go_simp
        all_goals with_reducible rfl
      (try simp only [Act.put, List.setIfInBounds_toArray, List.set_cons_zero, List.set_cons_succ])
      refine wpAnyH_take (i := 3) (oi := ⟨some 7, _, _, _, _, _⟩) (v := ?_) rfl (by kernel_rfl) (by kernel_rfl) (by kernel_rfl) (fun _ _ _ h => False.elim h) (Or.inl ⟨by rfl, ?_⟩) (by assumption) ?_
      rotate_left
      · intro w hSw
        (try dsimp only at hSw)
        go_simp
        all_goals with_reducible rfl
      (try simp only [Act.put, List.setIfInBounds_toArray, List.set_cons_zero, List.set_cons_succ])
      refine wpAnyH_take (i := 4) (oi := ⟨some 8, _, _, _, _, _⟩) (v := ?_) rfl (by kernel_rfl) (by kernel_rfl) (by kernel_rfl) (fun _ _ _ h => False.elim h) (Or.inl ⟨by rfl, ?_⟩) (by assumption) ?_
      rotate_left
      · intro w hSw
        (try dsimp only at hSw)
        go_simp
        all_goals with_reducible rfl
      (try simp only [Act.put, List.setIfInBounds_toArray, List.set_cons_zero, List.set_cons_succ])
      refine wpAnyH_take (i := 5) (oi := ⟨some 9, _, _, _, _, _⟩) (v := ?_) rfl (by kernel_rfl) (by kernel_rfl) (by kernel_rfl) (fun _ _ _ h => False.elim h) (Or.inl ⟨by rfl, ?_⟩) (by assumption) ?_
      rotate_left
      · intro w hSw
        (try dsimp only at hSw)
        go_simp
        all_goals with_reducible rfl
      (try simp only [Act.put, List.setIfInBounds_toArray, List.set_cons_zero, List.set_cons_succ])
      refine wpAnyH_take (i := 6) (oi := ⟨some 10, _, _, _, _, _⟩) (v := ?_) rfl (by kernel_rfl) (by kernel_rfl) (by kernel_rfl) (fun _ _ _ h => False.elim h) (Or.inl ⟨by rfl, ?_⟩) (by assumption) ?_
      rotate_left
      · intro w hSw
        (try dsimp only at hSw)
        go_simp
        all_goals with_reducible rfl
      (try simp only [Act.put, List.setIfInBounds_toArray, List.set_cons_zero, List.set_cons_succ])
      refine wpAnyH_take (i := 7) (oi := ⟨some 11, _, _, _, _, _⟩) (v := ?_) rfl (by kernel_rfl) (by kernel_rfl) (by kernel_rfl) (fun _ _ _ h => False.elim h) (Or.inl ⟨by rfl, ?_⟩) (by assumption) ?_
      rotate_left
      · intro w hSw
        (try dsimp only at hSw)
        go_simp
        all_goals with_reducible rfl
      (try simp only [Act.put, List.setIfInBounds_toArray, List.set_cons_zero, List.set_cons_succ])
      refine wpAnyH_take (i := 8) (oi := ⟨some 12, _, _, _, _, _⟩) (v := ?_) rfl (by kernel_rfl) (by kernel_rfl) (by kernel_rfl) (fun _ _ _ h => False.elim h) (Or.inl ⟨by rfl, ?_⟩) (by assumption) ?_
      rotate_left
      · intro w hSw
        (try dsimp only at hSw)
        go_simp
        all_goals with_reducible rfl
      (try simp only [Act.put, List.setIfInBounds_toArray, List.set_cons_zero, List.set_cons_succ])
      refine wpAnyH_take (i := 9) (oi := ⟨some 13, _, _, _, _, _⟩) (v := undef) rfl (by kernel_rfl) (by kernel_rfl) (by kernel_rfl) (fun _ _ _ h => False.elim h) (Or.inr ⟨by rfl, rfl⟩) (by assumption) ?_
      (try simp only [Act.put, List.setIfInBounds_toArray, List.set_cons_zero, List.set_cons_succ])
      refine wpAnyH_take (i := 10) (oi := ⟨some 14, _, _, _, _, _⟩) (v := undef) rfl (by kernel_rfl) (by kernel_rfl) (by kernel_rfl) (fun _ _ _ h => False.elim h) (Or.inr ⟨by rfl, rfl⟩) (by assumption) ?_
      (try simp only [Act.put, List.setIfInBounds_toArray, List.set_cons_zero, List.set_cons_succ])
      refine wpAnyH_take (i := 11) (oi := ⟨some 15, _, _, _, _, _⟩) (v := undef) rfl (by kernel_rfl) (by kernel_rfl) (by kernel_rfl) (fun _ _ _ h => False.elim h) (Or.inr ⟨by rfl, rfl⟩) (by assumption) ?_
      (try simp only [Act.put, List.setIfInBounds_toArray, List.set_cons_zero, List.set_cons_succ])
      refine wpAnyH_take (i := 12) (oi := ⟨some 16, _, _, _, _, _⟩) (v := undef) rfl (by kernel_rfl) (by kernel_rfl) (by kernel_rfl) (fun _ _ _ h => False.elim h) (Or.inr ⟨by rfl, rfl⟩) (by assumption) ?_
      (try simp only [Act.put, List.setIfInBounds_toArray, List.set_cons_zero, List.set_cons_succ])
      refine wpAnyH_take (i := 13) (oi := ⟨some 17, _, _, _, _, _⟩) (v := undef) rfl (by kernel_rfl) (by kernel_rfl) (by kernel_rfl) (fun _ _ _ h => False.elim h) (Or.inr ⟨by rfl, rfl⟩) (by assumption) ?_
      (try simp only [Act.put, List.setIfInBounds_toArray, List.set_cons_zero, List.set_cons_succ])
      refine wpAnyH_take (i := 14) (oi := ⟨some 18, _, _, _, _, _⟩) (v := undef) rfl (by kernel_rfl) (by kernel_rfl) (by kernel_rfl) (fun _ _ _ h => False.elim h) (Or.inr ⟨by rfl, rfl⟩) (by assumption) ?_
      (try simp only [Act.put, List.setIfInBounds_toArray, List.set_cons_zero, List.set_cons_succ])
      refine wpAnyH_take (i := 15) (oi := ⟨some 19, _, _, _, _, _⟩) (v := ?_) rfl (by kernel_rfl) (by kernel_rfl) (by kernel_rfl) (fun _ _ _ h => False.elim h) (Or.inl ⟨by rfl, ?_⟩) (by assumption) ?_
      rotate_left
      · intro w hSw
        (try dsimp only at hSw)
        go_simp
        all_goals with_reducible rfl
      (try simp only [Act.put, List.setIfInBounds_toArray, List.set_cons_zero, List.set_cons_succ])
      refine wpAnyH_take (i := 16) (oi := ⟨some 3, _, _, _, _, _⟩) (v := ?_) rfl (by kernel_rfl) (by kernel_rfl) (by kernel_rfl) (fun _ _ _ h => False.elim h) (Or.inl ⟨by rfl, ?_⟩) (by assumption) ?_
      rotate_left
      · intro w hSw
        (try dsimp only at hSw)
        go_simp
        all_goals with_reducible rfl
      (try simp only [Act.put, List.setIfInBounds_toArray, List.set_cons_zero, List.set_cons_succ])
      refine wpAnyH_done (by kernel_rfl) ?_ _
      refine NoPanic.normal ?_
      go_wp2_with fail
      go_ret
      exact ⟨rfl, HB.out.drew⟩
    | some q =>
      obtain ⟨b, cs⟩ := q
      obtain ⟨hbl, hbr, hcl⟩ := hs (b, cs) rfl
      simp only at hbl hbr hcl
      have hans : isSum bs ⟨x, 1, some (b, cs)⟩ = (cs == bs) := rfl
      rw [hans]
      have hB := new_belowS w (.cells #[.int .u32 x, .int .u8 1, .pointer (some ⟨b, 0, none⟩)] 74)
      have hk := Blk.new w 74 [.int .u32 x, .int .u8 1, .pointer (some ⟨b, 0, none⟩)]
      have heq := sum_eq cs bs hcl hbs
      have hsz1 : (Tryz.prog.info? 52).map (·.size) = some (cs.map (Value.int .u8)).length := by rw [List.length_map, hcl]; kernel_rfl
      have hsz2 : (Tryz.prog.info? 52).map (·.size) = some (bs.map (Value.int .u8)).length := by rw [List.length_map, hbs]; kernel_rfl
      obtain ⟨w1, hw1⟩ : ∃ w1, w.alloc (.cells #[.int .u32 x, .int .u8 1, .pointer (some ⟨b, 0, none⟩)] 74) = w1 := ⟨_, rfl⟩
      have hw1' : w.alloc (.cells [.int .u32 x, .int .u8 1, .pointer (some ⟨b, 0, none⟩)].toArray 74) = w1 := hw1
      rw [hw1] at hB
      rw [hw1'] at hk
      have k3 : w1.rangeAt b 0 (cs.map (Value.int .u8)) := fun j v hv => (hB.cell (p := ⟨b, 0 + j, none⟩) hbl).trans (hbr j v hv)
      have k4 : w1.rangeAt X 0 (bs.map (Value.int .u8)) := fun j v hv => (hB.cell (p := ⟨X, 0 + j, none⟩) hXl).trans (hX j v hv)
      obtain ⟨CV, hCV⟩ : ∃ V, cs.map (Value.int .u8) = V := ⟨_, rfl⟩
      obtain ⟨BV, hBV⟩ : ∃ V, bs.map (Value.int .u8) = V := ⟨_, rfl⟩
      rw [hCV] at heq hsz1 k3
      rw [hBV] at heq hsz2 k4
      obtain ⟨Q, hQ⟩ : ∃ Q : Bool, (cs == bs) = Q := ⟨_, rfl⟩
      rw [hQ] at heq ⊢
      have HW1 := Lib.hid hw1
      have HB := Lib.hid hB
      have HEQ := Lib.hid heq
      have HSZ1 := Lib.hid hsz1
      have HSZ2 := Lib.hid hsz2
      have HU := Lib.hid Tryz.underlying52
      obtain ⟨S, hS⟩ : ∃ S, w.heap.size = S := ⟨_, rfl⟩
      rw [hS] at hk
      have k1 : w1.cell? ⟨S, 1, none⟩ = some (.int .u8 1) := hk.cell 1
      have k2 : w1.cell? ⟨S, 2, none⟩ = some (.pointer (some ⟨b, 0, none⟩)) := hk.cell 2
      have HS := Lib.hid hS
      clear hw1 hw1' hB hk hs hX hXl hans hbl hbr hcl heq hsz1 hsz2 hCV hBV hQ hS hbs
      show Calls Tryz.prog 32 #[.agg #[.int .u32 x, .int .u8 1, .pointer (some ⟨b, 0, none⟩)], .pointer (some ⟨X, 0, none⟩)] w _
      go_enter Tryz.func32, Tryz.ntmps32
      go_wp2_with fail
      rw [HW1.out, HS.out]
      refine wp_region_noPanic ?_
      refine wp_region_held_drew (S := (fun w' => w'.cell? ⟨S, 1, none⟩ = some (.int .u8 1) ∧ w'.cell? ⟨S, 2, none⟩ = some (.pointer (some ⟨b, 0, none⟩)) ∧ w'.rangeAt b 0 CV ∧ w'.rangeAt X 0 BV)) (by kernel_rfl) ?_ (fun hHeld => ?_)
      · ((try dsimp only); refine ⟨?_, ?_, ?_, ?_⟩ <;> (first | assumption | (go_keep; done)))
      refine wpAnyH_take (i := 0) (oi := ⟨some 4, _, _, _, _, _⟩) (v := ?_) rfl (by kernel_rfl) (by kernel_rfl) (by kernel_rfl) (fun _ _ _ h => False.elim h) (Or.inl ⟨by rfl, ?_⟩) (by assumption) ?_
      rotate_left
      · intro w hSw
        (try dsimp only at hSw)
        go_simp
        all_goals with_reducible rfl
      (try simp only [Act.put, List.setIfInBounds_toArray, List.set_cons_zero, List.set_cons_succ])
      refine wpAnyH_take (i := 1) (oi := ⟨some 5, _, _, _, _, _⟩) (v := ?_) rfl (by kernel_rfl) (by kernel_rfl) (by kernel_rfl) (fun _ _ _ h => False.elim h) (Or.inl ⟨by rfl, ?_⟩) (by assumption) ?_
      rotate_left
      · intro w hSw
        (try dsimp only at hSw)
        go_simp
        all_goals with_reducible rfl
      (try simp only [Act.put, List.setIfInBounds_toArray, List.set_cons_zero, List.set_cons_succ])
      refine wpAnyH_take (i := 2) (oi := ⟨some 6, _, _, _, _, _⟩) (v := ?_) rfl (by kernel_rfl) (by kernel_rfl) (by kernel_rfl) (fun _ _ _ h => False.elim h) (Or.inl ⟨by rfl, ?_⟩) (by assumption) ?_
      rotate_left
      · intro w hSw
        (try dsimp only at hSw)
        go_simp
        all_goals with_reducible rfl
      (try simp only [Act.put, List.setIfInBounds_toArray, List.set_cons_zero, List.set_cons_succ])
      refine wpAnyH_take (i := 3) (oi := ⟨some 7, _, _, _, _, _⟩) (v := ?_) rfl (by kernel_rfl) (by kernel_rfl) (by kernel_rfl) (fun _ _ _ h => False.elim h) (Or.inl ⟨by rfl, ?_⟩) (by assumption) ?_
      rotate_left
      · intro w hSw
        (try dsimp only at hSw)
        go_simp
        all_goals with_reducible rfl
      (try simp only [Act.put, List.setIfInBounds_toArray, List.set_cons_zero, List.set_cons_succ])
      refine wpAnyH_take (i := 4) (oi := ⟨some 8, _, _, _, _, _⟩) (v := ?_) rfl (by kernel_rfl) (by kernel_rfl) (by kernel_rfl) (fun _ _ _ h => False.elim h) (Or.inl ⟨by rfl, ?_⟩) (by assumption) ?_
      rotate_left
      · intro w hSw
        (try dsimp only at hSw)
        go_simp
        all_goals with_reducible rfl
      (try simp only [Act.put, List.setIfInBounds_toArray, List.set_cons_zero, List.set_cons_succ])
      refine wpAnyH_take (i := 5) (oi := ⟨some 9, _, _, _, _, _⟩) (v := ?_) rfl (by kernel_rfl) (by kernel_rfl) (by kernel_rfl) (fun _ _ _ h => False.elim h) (Or.inl ⟨by rfl, ?_⟩) (by assumption) ?_
      rotate_left
      · intro w hSw
        (try dsimp only at hSw)
        go_simp
        all_goals with_reducible rfl
      (try simp only [Act.put, List.setIfInBounds_toArray, List.set_cons_zero, List.set_cons_succ])
      refine wpAnyH_take (i := 6) (oi := ⟨some 10, _, _, _, _, _⟩) (v := ?_) rfl (by kernel_rfl) (by kernel_rfl) (by kernel_rfl) (fun _ _ _ h => False.elim h) (Or.inl ⟨by rfl, ?_⟩) (by assumption) ?_
      rotate_left
      · intro w hSw
        (try dsimp only at hSw)
        go_simp
        all_goals with_reducible rfl
      (try simp only [Act.put, List.setIfInBounds_toArray, List.set_cons_zero, List.set_cons_succ])
      refine wpAnyH_take (i := 7) (oi := ⟨some 11, _, _, _, _, _⟩) (v := ?_) rfl (by kernel_rfl) (by kernel_rfl) (by kernel_rfl) (fun _ _ _ h => False.elim h) (Or.inl ⟨by rfl, ?_⟩) (by assumption) ?_
      rotate_left
      · intro w hSw
        (try dsimp only at hSw)
        go_simp
        all_goals with_reducible rfl
      (try simp only [Act.put, List.setIfInBounds_toArray, List.set_cons_zero, List.set_cons_succ])
      refine wpAnyH_take (i := 8) (oi := ⟨some 12, _, _, _, _, _⟩) (v := ?_) rfl (by kernel_rfl) (by kernel_rfl) (by kernel_rfl) (fun _ _ _ h => False.elim h) (Or.inl ⟨by rfl, ?_⟩) (by assumption) ?_
      rotate_left
      · intro w hSw
        (try dsimp only at hSw)
        go_simp
        all_goals with_reducible rfl
      (try simp only [Act.put, List.setIfInBounds_toArray, List.set_cons_zero, List.set_cons_succ])
      refine wpAnyH_take (i := 9) (oi := ⟨some 13, _, _, _, _, _⟩) (v := ?_) rfl (by kernel_rfl) (by kernel_rfl) (by kernel_rfl) (fun _ _ _ h => False.elim h) (Or.inl ⟨by rfl, ?_⟩) (by assumption) ?_
      rotate_left
      · intro w hSw
        (try dsimp only at hSw)
        go_simp
        all_goals with_reducible rfl
      (try simp only [Act.put, List.setIfInBounds_toArray, List.set_cons_zero, List.set_cons_succ])
      refine wpAnyH_take (i := 10) (oi := ⟨some 14, _, _, _, _, _⟩) (v := ?_) rfl (by kernel_rfl) (by kernel_rfl) (by kernel_rfl) (fun _ _ _ h => False.elim h) (Or.inl ⟨by rfl, ?_⟩) (by assumption) ?_
      rotate_left
      · intro w hSw
        (try dsimp only at hSw)
        go_simp
        all_goals with_reducible rfl
      (try simp only [Act.put, List.setIfInBounds_toArray, List.set_cons_zero, List.set_cons_succ])
      refine wpAnyH_take (i := 11) (oi := ⟨some 15, _, _, _, _, _⟩) (v := ?_) rfl (by kernel_rfl) (by kernel_rfl) (by kernel_rfl) (fun _ _ _ h => False.elim h) (Or.inl ⟨by rfl, ?_⟩) (by assumption) ?_
      rotate_left
      · intro w hSw
        (try dsimp only at hSw)
        go_simp
        all_goals with_reducible rfl
      (try simp only [Act.put, List.setIfInBounds_toArray, List.set_cons_zero, List.set_cons_succ])
      refine wpAnyH_take (i := 12) (oi := ⟨some 16, _, _, _, _, _⟩) (v := .agg CV.toArray) rfl (by kernel_rfl) (by kernel_rfl) (by kernel_rfl) (fun _ _ _ h => False.elim h) ?_ (by assumption) ?_
      · refine yieldsIf_load_mid ?_ 52 _ rfl b 0 rfl CV _ ?_ HU.out rfl HSZ1.out
        · rfl
        · (intro w hSw; (try dsimp only at hSw); go_split_ands; assumption)
      (try simp only [Act.put, List.setIfInBounds_toArray, List.set_cons_zero, List.set_cons_succ])
      refine wpAnyH_take (i := 13) (oi := ⟨some 17, _, _, _, _, _⟩) (v := .agg BV.toArray) rfl (by kernel_rfl) (by kernel_rfl) (by kernel_rfl) (fun _ _ _ h => False.elim h) ?_ (by assumption) ?_
      · refine yieldsIf_load_mid ?_ 52 _ rfl X 0 rfl BV _ ?_ HU.out rfl HSZ2.out
        · rfl
        · (intro w hSw; (try dsimp only at hSw); go_split_ands; assumption)
      (try simp only [Act.put, List.setIfInBounds_toArray, List.set_cons_zero, List.set_cons_succ])
      refine wpAnyH_take (i := 14) (oi := ⟨some 18, _, _, _, _, _⟩) (v := .bool Q) rfl (by kernel_rfl) (by kernel_rfl) (by kernel_rfl) (fun _ _ _ h => False.elim h) ?_ (by assumption) ?_
      · exact .inl ⟨by rfl, fun W _ => exec_eqlS CV.toArray BV.toArray Q rfl rfl rfl nog_sumS (HEQ.out W)⟩
      (try simp only [Act.put, List.setIfInBounds_toArray, List.set_cons_zero, List.set_cons_succ])
      refine wpAnyH_take (i := 15) (oi := ⟨some 19, _, _, _, _, _⟩) (v := ?_) rfl (by kernel_rfl) (by kernel_rfl) (by kernel_rfl) (fun _ _ _ h => False.elim h) (Or.inl ⟨by rfl, ?_⟩) (by assumption) ?_
      rotate_left
      · intro w hSw
        (try dsimp only at hSw)
        go_simp
        all_goals with_reducible rfl
      (try simp only [Act.put, List.setIfInBounds_toArray, List.set_cons_zero, List.set_cons_succ])
      refine wpAnyH_take (i := 16) (oi := ⟨some 3, _, _, _, _, _⟩) (v := ?_) rfl (by kernel_rfl) (by kernel_rfl) (by kernel_rfl) (fun _ _ _ h => False.elim h) (Or.inl ⟨by rfl, ?_⟩) (by assumption) ?_
      rotate_left
      · intro w hSw
        (try dsimp only at hSw)
        go_simp
        all_goals with_reducible rfl
      (try simp only [Act.put, List.setIfInBounds_toArray, List.set_cons_zero, List.set_cons_succ])
      refine wpAnyH_done (by kernel_rfl) ?_ _
      refine NoPanic.normal ?_
      go_wp2_with fail
      go_ret
      exact ⟨rfl, HB.out.drew⟩
  · have hans : isSum bs ⟨x, y, z⟩ = false := by
      have : (y == 1) = false := beq_eq_false_iff_ne.2 hy
      simp [isSum, this]
    rw [hans]
    obtain ⟨zv, hz⟩ : ∃ v, sumV z = v := ⟨_, rfl⟩
    rw [hz]
    have hyf : (y == 1) = false := beq_eq_false_iff_ne.2 hy
    have hB := new_belowS w (.cells #[.int .u32 x, .int .u8 y, zv] 74)
    have hk := Blk.new w 74 [.int .u32 x, .int .u8 y, zv]
    obtain ⟨w1, hw1⟩ : ∃ w1, w.alloc (.cells #[.int .u32 x, .int .u8 y, zv] 74) = w1 := ⟨_, rfl⟩
    have hw1' : w.alloc (.cells [.int .u32 x, .int .u8 y, zv].toArray 74) = w1 := hw1
    rw [hw1] at hB
    rw [hw1'] at hk
    have HW1 := Lib.hid hw1
    have HB := Lib.hid hB
    obtain ⟨S, hS⟩ : ∃ S, w.heap.size = S := ⟨_, rfl⟩
    rw [hS] at hk
    have k1 : w1.cell? ⟨S, 1, none⟩ = some (.int .u8 y) := hk.cell 1
    have HS := Lib.hid hS
    clear hw1 hw1' hB hk hs hX hXl hans hy hz hS hbs
    go_enter Tryz.func32, Tryz.ntmps32
    go_wp2_with fail
    rw [HW1.out, HS.out]
    refine wp_region_noPanic ?_
    refine wp_region_held_drew (S := (fun w' => w'.cell? ⟨S, 1, none⟩ = some (.int .u8 y))) (by kernel_rfl) ?_ (fun hHeld => ?_)
    · ((try dsimp only) <;> (first | assumption | (go_keep; done)))
    refine wpAnyH_take (i := 0) (oi := ⟨some 4, _, _, _, _, _⟩) (v := ?_) rfl (by kernel_rfl) (by kernel_rfl) (by kernel_rfl) (fun _ _ _ h => False.elim h) (Or.inl ⟨by rfl, ?_⟩) (by assumption) ?_
    rotate_left
    · intro w hSw
      (try dsimp only at hSw)
      go_simp
      all_goals with_reducible rfl
    (try simp only [Act.put, List.setIfInBounds_toArray, List.set_cons_zero, List.set_cons_succ])
    refine wpAnyH_take (i := 1) (oi := ⟨some 5, _, _, _, _, _⟩) (v := ?_) rfl (by kernel_rfl) (by kernel_rfl) (by kernel_rfl) (fun _ _ _ h => False.elim h) (Or.inl ⟨by rfl, ?_⟩) (by assumption) ?_
    rotate_left
    · intro w hSw
      (try dsimp only at hSw)
      go_simp
      all_goals with_reducible rfl
    (try simp only [Act.put, List.setIfInBounds_toArray, List.set_cons_zero, List.set_cons_succ])
    refine wpAnyH_take (i := 2) (oi := ⟨some 6, _, _, _, _, _⟩) (v := ?_) rfl (by kernel_rfl) (by kernel_rfl) (by kernel_rfl) (fun _ _ _ h => False.elim h) (Or.inl ⟨by rfl, ?_⟩) (by assumption) ?_
    rotate_left
    · intro w hSw
      (try dsimp only at hSw)
      go_simp
      all_goals with_reducible rfl
    (try simp only [Act.put, List.setIfInBounds_toArray, List.set_cons_zero, List.set_cons_succ])
    refine wpAnyH_take (i := 3) (oi := ⟨some 7, _, _, _, _, _⟩) (v := ?_) rfl (by kernel_rfl) (by kernel_rfl) (by kernel_rfl) (fun _ _ _ h => False.elim h) (Or.inl ⟨by rfl, ?_⟩) (by assumption) ?_
    rotate_left
    · intro w hSw
      (try dsimp only at hSw)
      go_simp
      all_goals with_reducible rfl
    (try simp only [Act.put, List.setIfInBounds_toArray, List.set_cons_zero, List.set_cons_succ])
    refine wpAnyH_take (i := 4) (oi := ⟨some 8, _, _, _, _, _⟩) (v := undef) rfl (by kernel_rfl) (by kernel_rfl) (by kernel_rfl) (fun _ _ _ h => False.elim h) (Or.inr ⟨by rfl, rfl⟩) (by assumption) ?_
    (try simp only [Act.put, List.setIfInBounds_toArray, List.set_cons_zero, List.set_cons_succ])
    refine wpAnyH_take (i := 5) (oi := ⟨some 9, _, _, _, _, _⟩) (v := undef) rfl (by kernel_rfl) (by kernel_rfl) (by kernel_rfl) (fun _ _ _ h => False.elim h) (Or.inr ⟨by rfl, rfl⟩) (by assumption) ?_
    (try simp only [Act.put, List.setIfInBounds_toArray, List.set_cons_zero, List.set_cons_succ])
    refine wpAnyH_take (i := 6) (oi := ⟨some 10, _, _, _, _, _⟩) (v := undef) rfl (by kernel_rfl) (by kernel_rfl) (by kernel_rfl) (fun _ _ _ h => False.elim h) (Or.inr ⟨by rfl, rfl⟩) (by assumption) ?_
    (try simp only [Act.put, List.setIfInBounds_toArray, List.set_cons_zero, List.set_cons_succ])
    refine wpAnyH_take (i := 7) (oi := ⟨some 11, _, _, _, _, _⟩) (v := ?_) rfl (by kernel_rfl) (by kernel_rfl) (by kernel_rfl) (fun _ _ _ h => False.elim h) (Or.inl ⟨by rfl, ?_⟩) (by assumption) ?_
    rotate_left
    · intro w hSw
      (try dsimp only at hSw)
      go_simp
      all_goals with_reducible rfl
    (try simp only [Act.put, List.setIfInBounds_toArray, List.set_cons_zero, List.set_cons_succ])
    refine wpAnyH_take (i := 8) (oi := ⟨some 12, _, _, _, _, _⟩) (v := ?_) rfl (by kernel_rfl) (by kernel_rfl) (by kernel_rfl) (fun _ _ _ h => False.elim h) (Or.inl ⟨by rfl, ?_⟩) (by assumption) ?_
    rotate_left
    · intro w hSw
      (try dsimp only at hSw)
      go_simp
      all_goals with_reducible rfl
    (try simp only [Act.put, List.setIfInBounds_toArray, List.set_cons_zero, List.set_cons_succ])
    refine wpAnyH_take (i := 9) (oi := ⟨some 13, _, _, _, _, _⟩) (v := undef) rfl (by kernel_rfl) (by kernel_rfl) (by kernel_rfl) (fun _ _ _ h => False.elim h) (Or.inr ⟨by rfl, rfl⟩) (by assumption) ?_
    (try simp only [Act.put, List.setIfInBounds_toArray, List.set_cons_zero, List.set_cons_succ])
    refine wpAnyH_take (i := 10) (oi := ⟨some 14, _, _, _, _, _⟩) (v := undef) rfl (by kernel_rfl) (by kernel_rfl) (by kernel_rfl) (fun _ _ _ h => False.elim h) (Or.inr ⟨by rfl, rfl⟩) (by assumption) ?_
    (try simp only [Act.put, List.setIfInBounds_toArray, List.set_cons_zero, List.set_cons_succ])
    refine wpAnyH_take (i := 11) (oi := ⟨some 15, _, _, _, _, _⟩) (v := undef) rfl (by kernel_rfl) (by kernel_rfl) (by kernel_rfl) (fun _ _ _ h => False.elim h) (Or.inr ⟨by rfl, rfl⟩) (by assumption) ?_
    (try simp only [Act.put, List.setIfInBounds_toArray, List.set_cons_zero, List.set_cons_succ])
    refine wpAnyH_take (i := 12) (oi := ⟨some 16, _, _, _, _, _⟩) (v := undef) rfl (by kernel_rfl) (by kernel_rfl) (by kernel_rfl) (fun _ _ _ h => False.elim h) (Or.inr ⟨by rfl, rfl⟩) (by assumption) ?_
    (try simp only [Act.put, List.setIfInBounds_toArray, List.set_cons_zero, List.set_cons_succ])
    refine wpAnyH_take (i := 13) (oi := ⟨some 17, _, _, _, _, _⟩) (v := undef) rfl (by kernel_rfl) (by kernel_rfl) (by kernel_rfl) (fun _ _ _ h => False.elim h) (Or.inr ⟨by rfl, rfl⟩) (by assumption) ?_
    (try simp only [Act.put, List.setIfInBounds_toArray, List.set_cons_zero, List.set_cons_succ])
    refine wpAnyH_take (i := 14) (oi := ⟨some 18, _, _, _, _, _⟩) (v := undef) rfl (by kernel_rfl) (by kernel_rfl) (by kernel_rfl) (fun _ _ _ h => False.elim h) (Or.inr ⟨by rfl, rfl⟩) (by assumption) ?_
    (try simp only [Act.put, List.setIfInBounds_toArray, List.set_cons_zero, List.set_cons_succ])
    refine wpAnyH_take (i := 15) (oi := ⟨some 19, _, _, _, _, _⟩) (v := ?_) rfl (by kernel_rfl) (by kernel_rfl) (by kernel_rfl) (fun _ _ _ h => False.elim h) (Or.inl ⟨by rfl, ?_⟩) (by assumption) ?_
    rotate_left
    · intro w hSw
      (try dsimp only at hSw)
      go_simp
      all_goals with_reducible rfl
    (try simp only [Act.put, List.setIfInBounds_toArray, List.set_cons_zero, List.set_cons_succ])
    refine wpAnyH_take (i := 16) (oi := ⟨some 3, _, _, _, _, _⟩) (v := ?_) rfl (by kernel_rfl) (by kernel_rfl) (by kernel_rfl) (fun _ _ _ h => False.elim h) (Or.inl ⟨by rfl, ?_⟩) (by assumption) ?_
    rotate_left
    · intro w hSw
      (try dsimp only at hSw)
      go_simp
      all_goals with_reducible rfl
    (try simp only [Act.put, List.setIfInBounds_toArray, List.set_cons_zero, List.set_cons_succ])
    refine wpAnyH_done (by kernel_rfl) ?_ _
    refine NoPanic.normal ?_
    go_wp2_with fail
    go_ret
    exact ⟨rfl, HB.out.drew⟩
end Go.Proofs.YtgecfcdafbedaaaGreatDoor
