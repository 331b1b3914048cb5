/- Small words on worlds that all texts of this seat use: which blocks may have changed. -/
import Derived.Test.YtadpgodmkodgdaaProg
import Derived.WalkKit
import Derived.WalkSpells
import Derived.WalkLawsBesides
import Derived.Deep.QuietTactic
import Derived.BigQuiet
import Derived.Lib.Hide
import Derived.Deep.AppendLies
import Derived.Maps.AppendAt
import Derived.Deep.RegionLaw
import Derived.Deep.Draws
import Derived.Laws.OwnMore
import Derived.Laws.Rows
namespace Go.Proofs.Ytadpgodmkodgdaa
open Go.RowKit
set_option linter.unusedSimpArgs false
set_option linter.unusedVariables false

theorem ret_int {k : IntKind} {a b : Int} (h : a = b) : Ending.returned (.int k a) = .returned (.int k b) := by rw [h]
theorem ret_bool {a b : Bool} (h : a = b) : Ending.returned (.bool a) = .returned (.bool b) := by rw [h]

/-- Only blocks in M, and new ones, may have changed. -/
structure Keeps (M : Nat → Prop) (w w' : World) : Prop where
  os : w'.os = w.os
  tape : w'.tape = w.tape
  output : w'.output = w.output
  size : w.heap.size ≤ w'.heap.size
  block : ∀ i, i < w.heap.size → ¬ M i → w'.heap[i]? = w.heap[i]?
section
variable {M M' : Nat → Prop} {a b c w w' : World}
theorem Keeps.refl (M : Nat → Prop) (w : World) : Keeps M w w := ⟨rfl, rfl, rfl, Nat.le_refl _, fun _ _ _ => rfl⟩
theorem Keeps.trans (h : Keeps M a b) (k : Keeps M b c) : Keeps M a c :=
  ⟨k.os.trans h.os, k.tape.trans h.tape, k.output.trans h.output, Nat.le_trans h.size k.size, fun i hi hn => (k.block i (Nat.lt_of_lt_of_le hi h.size) hn).trans (h.block i hi hn)⟩
/-- The second step may change what is new in the first. -/
theorem Keeps.then_ (h : Keeps M a b) (k : Keeps M' b c) (hM : ∀ i, M' i → M i ∨ a.heap.size ≤ i) : Keeps M a c :=
  ⟨k.os.trans h.os, k.tape.trans h.tape, k.output.trans h.output, Nat.le_trans h.size k.size, fun i hi hn => (k.block i (Nat.lt_of_lt_of_le hi h.size) (fun hm => by
    rcases hM i hm with h1 | h1
    · exact hn h1
    · omega)).trans (h.block i hi hn)⟩
theorem Keeps.mono (h : Keeps M a b) (hM : ∀ i, M i → M' i) : Keeps M' a b := ⟨h.os, h.tape, h.output, h.size, fun i hi hn => h.block i hi (fun hm => hn (hM i hm))⟩
theorem Keeps.drew (h : Keeps M a b) : Keeps M a b.drew := ⟨h.os, h.tape, h.output, h.size, h.block⟩
theorem Keeps.drewN (h : Keeps M a b) (n : Nat) : Keeps M a (b.drewN n) := ⟨h.os, h.tape, h.output, h.size, h.block⟩
theorem Keeps.alloc (h : Keeps M a b) (o : Obj) : Keeps M a (b.alloc o) :=
  ⟨h.os, h.tape, h.output, Nat.le_trans h.size (by simp), fun i hi hn => (Below.heap_alloc b o i (Nat.lt_of_lt_of_le hi h.size)).trans (h.block i hi hn)⟩
theorem Keeps.setCell (h : Keeps M a b) {p : Addr} (hp : M p.block ∨ a.heap.size ≤ p.block) (u : Value) : Keeps M a (b.setCell p u) :=
  ⟨h.os, h.tape, h.output, by simpa [World.setCell] using h.size, fun i hi hn => (Below.heap_setCell b p u i (by
    rintro rfl
    rcases hp with hp | hp
    · exact hn hp
    · omega)).trans (h.block i hi hn)⟩
theorem Keeps.set1 (w : World) (p : Addr) (u : Value) : Keeps (· = p.block) w (w.setCell p u) := Keeps.setCell (M := fun x => x = p.block) (Keeps.refl _ w) (Or.inl rfl) u
theorem Keeps.grown (h : Keeps M a b) {row : Option Nat} (hg : b.grownBy c row) (hr : ∀ k, row = some k → M k ∨ a.heap.size ≤ k) : Keeps M a c :=
  h.then_ (M' := fun i => row = some i) ⟨hg.os, hg.tape, hg.output, hg.size, fun i hi hn => hg.block i hi (fun e => hn e.symm)⟩ (fun i hi => hr i hi)
theorem Keeps.below (h : Keeps M a b) (hb : Below b.heap.size b c) : Keeps M a c :=
  h.trans ⟨hb.os, hb.tape, hb.output, hb.size, fun i hi _ => hb.block i hi⟩
theorem Keeps.of_below (hb : Below a.heap.size a b) : Keeps M a b := ⟨hb.os, hb.tape, hb.output, hb.size, fun i hi _ => hb.block i hi⟩
theorem Keeps.to_below (h : Keeps M a b) {B : Nat} (hB : B ≤ a.heap.size) (hM : ∀ i, M i → B ≤ i) : Below B a b :=
  ⟨h.os, h.tape, h.output, h.size, fun i hi => h.block i (Nat.lt_of_lt_of_le hi hB) (fun hm => by have := hM i hm; omega)⟩
theorem Keeps.cell (h : Keeps M a b) {p : Addr} (hp : p.block < a.heap.size) (hn : ¬ M p.block) : b.cell? p = a.cell? p := World.cell?_of_block (h.block _ hp hn)
theorem Keeps.frozen (h : Keeps M a b) {p : Addr} (hp : p.block < a.heap.size) (hn : ¬ M p.block) : b.frozen? p = a.frozen? p := World.frozen?_of_block (h.block _ hp hn)
theorem Keeps.own (h : Keeps M a b) {base : Nat} {e : TypeId} {size n : Nat} {v : Value} {xs : List Value} (ho : a.ownsRow base e size v n xs) (hn : ∀ k, v.ownBlock = some k → ¬ M k) : b.ownsRow base e size v n xs := by
  rcases ho.2 with ⟨rfl, h0⟩ | ⟨g, cap, cur, rfl, hb, hh, hr⟩
  · exact ⟨ho.1, .inl ⟨rfl, h0⟩⟩
  · have hg : g < a.heap.size := (Array.getElem?_eq_some_iff.1 hh).1
    exact ⟨ho.1, .inr ⟨g, cap, cur, rfl, hb, (h.block g hg (hn g (by simp [Value.ownBlock]))).trans hh, hr⟩⟩
theorem below_keeps {B : Nat} (h : Below B a b) (k : Keeps M b c) (hB : B ≤ a.heap.size) (hM : ∀ i, M i → B ≤ i) : Below B a c :=
  h.trans (k.to_below (Nat.le_trans hB h.size) hM)
end

/-- The world is the old one, some orders having been drawn. -/
def Drawn (w w' : World) : Prop := ∃ n, w' = w.drewN n
theorem Drawn.refl (w : World) : Drawn w w := ⟨0, rfl⟩
theorem Drawn.step {w w' : World} (h : Drawn w w') (n : Nat) : Drawn w (w'.drewN n) := by
  obtain ⟨m, rfl⟩ := h
  exact ⟨m + n, World.drewN_drewN ..⟩
theorem Drawn.step1 {w w' : World} (h : Drawn w w') : Drawn w w'.drew := h.step 1
theorem Drawn.keeps {w w' : World} (h : Drawn w w') (M : Nat → Prop) : Keeps M w w' := by
  obtain ⟨m, rfl⟩ := h
  exact (Keeps.refl M w).drewN m
theorem below_drawn {B : Nat} {a w w' : World} (h : Below B a w) (k : Drawn w w') : Below B a w' := by
  obtain ⟨m, rfl⟩ := k
  exact ⟨h.os, h.tape, h.output, h.size, h.block⟩

/-- A quiet region's call, by a contract that leaves the world alone. -/
theorem quiet_call {P : Program} {f : FuncId} {args : Array Value} {w : World} {n : Nat} {v : Value}
    (h : Calls P f args (w.drewN n) fun e w' => e = .returned v ∧ w.drewN n = w') : Calls P f args (w.drewN n) fun e w'' => e = .returned v ∧ ∃ m, w'' = w.drewN m :=
  h.mono fun _ _ ⟨he, hm⟩ => ⟨he, n, hm.symm⟩

/-- An operation without a guard whose value is known. -/
theorem wpList_value {P : Program} {ops : Array Oper} {Q : Exit → Act → World → Prop} {rest : List Oper} {o : Oper} {a : Act} {w w' : World} {v : Value}
    (hg : o.guard = none) (h : (execOp a.eval o).run P w = .ok (.value v) w') (k : wpList P ops Q rest (a.put o.dst v) w') : wpList P ops Q (o :: rest) a w :=
  wpList_plain hg fun K hK => by
    unfold Oper.wp
    rw [h]
    exact hK _ _ k

/-- A block that is known whole. -/
def Blk (w : World) (g : Nat) (t : TypeId) (cs : List Value) : Prop := w.heap[g]? = some (.cells cs.toArray t (0, 0))
section
variable {M : Nat → Prop} {w w' : World} {g : Nat} {t : TypeId} {cs : List Value}
theorem Blk.lt (h : Blk w g t cs) : g < w.heap.size := (Array.getElem?_eq_some_iff.1 h).1
theorem Blk.cell (h : Blk w g t cs) (j : Nat) : w.cell? ⟨g, j, none⟩ = cs[j]? := by rw [cell_of_row w g j _ t (0, 0) h]; simp
theorem Blk.free (h : Blk w g t cs) (j : Nat) : w.frozen? ⟨g, j, none⟩ = false := frozen_of_row w g j _ t h
theorem Blk.keep (h : Blk w g t cs) (k : Keeps M w w') (hn : ¬ M g) : Blk w' g t cs := (k.block g h.lt hn).trans h
theorem Blk.drew (h : Blk w g t cs) : Blk w.drew g t cs := h
theorem Blk.drewN (h : Blk w g t cs) (n : Nat) : Blk (w.drewN n) g t cs := h
theorem Blk.alloc (h : Blk w g t cs) (o : Obj) : Blk (w.alloc o) g t cs := (Below.heap_alloc w o g h.lt).trans h
theorem Blk.new (w : World) (t : TypeId) (cs : List Value) : Blk (w.alloc (.cells cs.toArray t (0, 0))) w.heap.size t cs := heap_alloc_new w _
theorem Blk.put (h : Blk w g t cs) (j : Nat) (u : Value) : Blk (w.setCell ⟨g, j, none⟩ u) g t (cs.set j u) := by
  have := heap_setCell_same w g j _ t u h
  simpa [Blk] using this
theorem Blk.far (h : Blk w g t cs) {p : Addr} (hp : g ≠ p.block) (u : Value) : Blk (w.setCell p u) g t cs := (Below.heap_setCell w p u g hp).trans h
theorem Blk.below {B : Nat} (h : Blk w g t cs) (hb : Below B w w') (hg : g < B) : Blk w' g t cs := (hb.block g hg).trans h
end

theorem Blk.int_at {w : World} {g : Nat} {t : TypeId} {k : IntKind} {xs : List Int} (h : Blk w g t (xs.map (Value.int k))) (i : Nat) (hi : i < xs.length) : w.cell? ⟨g, i, none⟩ = some (.int k (xs[i]?.getD 0)) := by
  rw [h.cell]; simp [hi]
theorem Blk.int_put {w : World} {g : Nat} {t : TypeId} {k : IntKind} {xs : List Int} (h : Blk w g t (xs.map (Value.int k))) (i : Nat) (x : Int) : Blk (w.setCell ⟨g, i, none⟩ (.int k x)) g t ((xs.set i x).map (Value.int k)) := by
  rw [List.map_set]; exact h.put i _

/-- A slice of whole numbers that is read; nil, empty and other slices alike. -/
structure Rd (w : World) (k : IntKind) (A : Option Addr) (n : Nat) (xs : List Int) : Prop where
  len : xs.length = n
  big : n ≤ 140737488351232
  wf : ∀ x ∈ xs, (Lit.int k x).wf = true
  row : 0 < n → ∃ b off, A = some ⟨b, off, none⟩ ∧ b < w.heap.size ∧ ∀ j, j < n → w.cell? ⟨b, off + j, none⟩ = some (.int k (xs[j]?.getD 0))
section
variable {M : Nat → Prop} {w w' : World} {k : IntKind} {A : Option Addr} {n : Nat} {xs : List Int}
theorem Rd.keep (h : Rd w k A n xs) (hk : Keeps M w w') (hM : ∀ b, b < w.heap.size → ¬ M b) : Rd w' k A n xs :=
  ⟨h.len, h.big, h.wf, fun hn => by
    obtain ⟨b, off, e, hb, hc⟩ := h.row hn
    exact ⟨b, off, e, Nat.lt_of_lt_of_le hb hk.size, fun j hj => (hk.cell (p := ⟨b, off + j, none⟩) hb (hM b hb)).trans (hc j hj)⟩⟩
theorem Rd.below (h : Rd w k A n xs) (hb : Below w.heap.size w w') : Rd w' k A n xs :=
  h.keep (M := fun _ => False) (Keeps.of_below hb) (fun _ _ h => h)
theorem Rd.mem (h : Rd w k A n xs) {j : Nat} (hj : j < n) : (Lit.int k (xs[j]?.getD 0)).wf = true := by
  have hl : j < xs.length := by rw [h.len]; exact hj
  rw [List.getElem?_eq_getElem hl]
  exact h.wf _ (List.getElem_mem hl)
theorem rd_of_row {a : Option Addr} {len cap bytes : Nat} {zs : List Int} (hby : 0 < bytes) (hsz : cap * bytes ≤ 140737488351232)
    (h : (a = none ∧ len = 0 ∧ cap = 0 ∧ zs = []) ∨
      ∃ x, a = some x ∧ len ≤ cap ∧ cap ≤ maxLen ∧ zs.length = cap ∧ (∀ i, i < zs.length → w.cell? (x.add i) = some (.int k (zs.getD i 0))) ∧ ∀ n ∈ zs, (Lit.int k n).wf = true) :
    Rd w k a len (zs.take len) ∧ len ≤ cap := by
  rcases h with ⟨rfl, rfl, rfl, rfl⟩ | ⟨x, rfl, hl, hm, hz, hc, hw⟩
  · exact ⟨⟨by simp, by omega, by simp, fun h => absurd h (by omega)⟩, Nat.le_refl _⟩
  · have hcap : cap ≤ 140737488351232 := Nat.le_trans (Nat.le_mul_of_pos_right _ hby) hsz
    refine ⟨⟨by simp; omega, by omega, fun y hy => hw y (List.mem_of_mem_take hy), fun hn => ?_⟩, hl⟩
    obtain ⟨b, off, spot⟩ := x
    have h0 := hc 0 (by omega)
    have hspot : spot = none := by simpa [Addr.add] using World.cell?_spot h0
    subst hspot
    refine ⟨b, off, rfl, World.block_lt_of_cell? w _ (u := .int k (zs.getD 0 0)) (by simpa [Addr.add] using h0), fun j hj => ?_⟩
    have hj' := hc j (by omega)
    have ha : (⟨b, off, none⟩ : Addr).add j = ⟨b, off + j, none⟩ := by unfold Addr.add; split <;> simp_all
    rw [ha] at hj'
    rw [hj', List.getElem?_take, if_pos hj, List.getD_eq_getElem?_getD]
end
theorem wf_bounds_u8 {x : Int} (h : (Lit.int .u8 x).wf = true) : 0 ≤ x ∧ x ≤ 255 := by simp only [Lit.wf, Bool.and_eq_true, decide_eq_true_eq] at h; exact h
theorem wf_bounds_u16 {x : Int} (h : (Lit.int .u16 x).wf = true) : 0 ≤ x ∧ x ≤ 65535 := by simp only [Lit.wf, Bool.and_eq_true, decide_eq_true_eq] at h; exact h
theorem wf_bounds_u32 {x : Int} (h : (Lit.int .u32 x).wf = true) : 0 ≤ x ∧ x ≤ 4294967295 := by simp only [Lit.wf, Bool.and_eq_true, decide_eq_true_eq] at h; exact h
theorem wf_bounds_u64 {x : Int} (h : (Lit.int .u64 x).wf = true) : 0 ≤ x ∧ x ≤ 18446744073709551615 := by simp only [Lit.wf, Bool.and_eq_true, decide_eq_true_eq] at h; exact h
theorem wf_bounds_i64 {x : Int} (h : (Lit.int .i64 x).wf = true) : -9223372036854775808 ≤ x ∧ x ≤ 9223372036854775807 := by simp only [Lit.wf, Bool.and_eq_true, decide_eq_true_eq] at h; exact h
theorem wf_bounds_i16 {x : Int} (h : (Lit.int .i16 x).wf = true) : -32768 ≤ x ∧ x ≤ 32767 := by simp only [Lit.wf, Bool.and_eq_true, decide_eq_true_eq] at h; exact h
end Go.Proofs.Ytadpgodmkodgdaa
