/- What the walks of the laws NumsRead and NumsWritten share: bytes got in one form, rows that are unlike, a Book that is new. -/
import Derived.Test.YtigcpjjmafpjhaaGreatDoorKRefGet
import Derived.Test.YtigcpjjmafpjhaaGreatDoorKTwin2
import Derived.Test.YtigcpjjmafpjhaaGreatDoorKBeyond
import Derived.Test.YtigcpjjmafpjhaaGreatDoorKLeft
import Derived.Test.YtigcpjjmafpjhaaGreatDoorBookApart
import Derived.Test.YtigcpjjmafpjhaaGreatDoorEqInts
import Derived.Test.YtigcpjjmafpjhaaGreatDoorKWant
namespace Go.Proofs.YtigcpjjmafpjhaaGreatDoor
open Go.RowKit
set_option linter.unusedSimpArgs false
set_option linter.unusedVariables false

theorem size_u64k : ∀ w, (sizeOf 25).run Tryz.prog w = .ok 1 w := fun w => by kernel_rfl
theorem num_same (xs : List Int) (hx : xs.length = 4) (w : World) : Sem.run Tryz.prog (Op.equalIn 10000 30 (.agg (xs.map (Value.int .u64)).toArray) (.agg (xs.map (Value.int .u64)).toArray)) w = .ok true w := by
  have := run_equalIn_ints (P := Tryz.prog) w 9998 30 25 4 .u64 Tryz.underlying30 Tryz.underlying25 size_u64k xs xs hx hx
  simpa using this
theorem longGot_len (bs : List Int) (n : Nat) : (longGot bs n).length = 4 := by unfold longGot; split <;> rfl

def gotL (bs : List Int) : List Int := (gotB bs).getD []
def gotT (bs : List Int) : Int := match gotB bs with | none => 0 | some l => 4 + (l.length : Int)
def gotE (bs : List Int) : Int := match gotB bs with | none => 5 | some _ => 0
theorem own_of_blk {w : World} {g base : Nat} {l : List Int} (h : Blk w g 5 (l.map (Value.int .u8))) (hb : base ≤ g) (hl : l.length ≤ maxLen) : w.ownsRow base 5 1 (.slice (some ⟨g, 0, none⟩) l.length l.length) l.length (l.map (Value.int .u8)) :=
  ⟨by simp, .inr ⟨g, l.length, _, rfl, hb, h, Nat.le_refl _, hl, by simp, by rw [Nat.mul_one]; exact List.take_of_length_le (by simp)⟩⟩
theorem own_lower {w : World} {base base' : Nat} {e : TypeId} {size n : Nat} {v : Value} {xs : List Value} (h : w.ownsRow base e size v n xs) (hb : base' ≤ base) : w.ownsRow base' e size v n xs := by
  refine ⟨h.1, ?_⟩
  rcases h.2 with h1 | ⟨g, cap, cur, h1, h2, h3⟩
  · exact .inl h1
  · exact .inr ⟨g, cap, cur, h1, Nat.le_trans hb h2, h3⟩
theorem gotB_le {bs l : List Int} (h : gotB bs = some l) : l.length ≤ bs.length := by
  unfold gotB at h
  split at h
  · cases h
  · split at h
    · cases h
    · injection h with h
      subst h
      simp
      omega
/-- What GetBytes tells, in one form. -/
def GotU (w : World) (bs : List Int) (e : Ending) (w' : World) : Prop :=
  ∃ (A : Option Addr) (c : Nat), e = .returned (.tuple #[.slice A (gotL bs).length c, .int .i64 (gotT bs), .int .i64 (gotE bs)]) ∧ w'.ownsRow w.heap.size 5 1 (.slice A (gotL bs).length c) (gotL bs).length ((gotL bs).map (Value.int .u8)) ∧ Below w.heap.size w w'
theorem getbytes_u (A0 : Option Addr) (n0 c0 : Nat) (bs : List Int) (w : World) (r0 : Rd w .u8 A0 n0 bs) (l0 : n0 ≤ c0) : Calls Tryz.prog 11 #[.slice A0 n0 c0] w (GotU w bs) := by
  refine (getbytes_any A0 n0 c0 bs w r0 l0).mono fun e w' h => ?_
  rcases h with ⟨h1, rfl, hB⟩ | ⟨l, g, h1, hg, rfl, hk, hB⟩
  · refine ⟨none, 0, ?_, ?_, hB⟩
    · simp [gotL, gotT, gotE, h1]
    · simp only [gotL, h1, Option.getD_none, List.length_nil, List.map_nil]
      exact own_nil _ _ _ _
  · have e1 : gotL bs = l := by simp [gotL, h1]
    refine ⟨some ⟨g, 0, none⟩, l.length, ?_, ?_, hB⟩
    · rw [e1]; simp [gotT, gotE, h1]
    · rw [e1]
      exact own_of_blk hk hg (by have := gotB_le h1; have := r0.len; have := r0.big; unfold maxLen; omega)
def RefU (w : World) (bs : List Int) (e : Ending) (w' : World) : Prop :=
  ∃ (A : Option Addr) (c : Nat), e = .returned (.tuple #[.slice A (gotL bs).length c, .int .i64 (gotT bs), .int .i64 (gotE bs)]) ∧ Rd w' .u8 A (gotL bs).length (gotL bs) ∧ Below w.heap.size w w'
theorem refgetbytes_u (A0 : Option Addr) (n0 c0 : Nat) (bs : List Int) (w : World) (r0 : Rd w .u8 A0 n0 bs) (l0 : n0 ≤ c0) (z0 : A0 = none → c0 = 0) (hn : n0 ≤ 70368744177664) : Calls Tryz.prog 12 #[.slice A0 n0 c0] w (RefU w bs) := by
  refine (refgetbytes_any A0 n0 c0 bs w r0 l0 z0 hn).mono fun e w' h => ?_
  rcases h with ⟨h1, rfl, hB⟩ | ⟨l, A, c, h1, rfl, hr, hB⟩
  · refine ⟨none, 0, ?_, ?_, hB⟩
    · simp [gotL, gotT, gotE, h1]
    · simp only [gotL, h1, Option.getD_none, List.length_nil]
      exact rd_nil w' .u8
  · have e1 : gotL bs = l := by simp [gotL, h1]
    refine ⟨A, c, ?_, ?_, hB⟩
    · rw [e1]; simp [gotT, gotE, h1]
    · rw [e1]; exact hr

theorem unlike_of_pairwise {hs : List Hb} (h : hs.Pairwise fun a b => ∀ k, a.l.ownBlock = some k → b.l.ownBlock ≠ some k) : Unlike hs := by
  intro i j a b hi hj hne k hk hk2
  obtain ⟨hil, rfl⟩ := List.getElem?_eq_some_iff.1 hi
  obtain ⟨hjl, rfl⟩ := List.getElem?_eq_some_iff.1 hj
  have hp := List.pairwise_iff_getElem.1 h
  rcases Nat.lt_or_ge i j with h1 | h1
  · exact hp i j hil hjl h1 k hk hk2
  · exact hp j i hjl hil (by omega) k hk2 hk

def zBook : List Value := bookC 0 (.slice none 0 0)
theorem run_build_book (W : World) : (Instr.build 52 #[]).run Tryz.prog W = .ok (.agg zBook.toArray) W := by kernel_rfl
theorem exec_alloc_book (W : World) (o : Oper) (ho : o.op = .alloc 52) (ev : Operand → Value) : (execOp ev o).run Tryz.prog W = .ok (.value (.pointer (some ⟨W.heap.size, 0, none⟩))) (W.alloc (.cells zBook.toArray 52)) := by
  obtain ⟨d, op, t, p, af, g⟩ := o
  simp only at ho
  subst ho
  kernel_rfl
theorem Blk.whole {w : World} {g : Nat} {t : TypeId} {cs : List Value} (h : Blk w g t cs) (ds : List Value) (hl : ds.length = cs.length) : Blk (w.setCells g 0 ds) g t ds := by
  have := Blk.setCells ds 0 w cs h (by omega)
  rwa [splice_whole cs ds hl] at this
/-- A Book that is new. -/
theorem book_new {base : Nat} (w : World) (hb : base ≤ w.heap.size) : BookAt base ((w.alloc (.cells zBook.toArray 52)).setCells w.heap.size 0 zBook) w.heap.size [] ∧ Below w.heap.size w ((w.alloc (.cells zBook.toArray 52)).setCells w.heap.size 0 zBook) := by
  have h1 : Blk (w.alloc (.cells zBook.toArray 52)) w.heap.size 52 zBook := Blk.new _ _ _
  have h2 := h1.whole zBook rfl
  refine ⟨⟨⟨.slice none 0 0, h2, own_nil _ _ _ _⟩, hb, by simp⟩, ?_⟩
  exact below_keeps ((Below.refl _ w).alloc (Nat.le_refl _) _) (Keeps.setCells zBook 0 _) (Nat.le_refl _) (fun i hi => by omega)
end Go.Proofs.YtigcpjjmafpjhaaGreatDoor
