/- What a Book's own notes turn. -/
import Derived.Test.YtjikjdignhdipaaGreatDoorYRPacketsGet28
namespace Go.Proofs.YtjikjdignhdipaaGreatDoor
open Go.RowKit
set_option linter.unusedVariables false
set_option linter.unusedSimpArgs false

/-- What a Book's own note may turn: its own blocks, and new ones. -/
def ByBook (base B : Nat) (T : TypeId) (w : World) (i : Nat) : Prop := i = B ∨ ByTy base T w i
theorem ByTy.lo {base : Nat} {T : TypeId} {w : World} (hw : base ≤ w.heap.size) {i : Nat} (h : ByTy base T w i) : base ≤ i := by
  rcases h with ⟨h, _⟩ | h
  · exact h
  · omega
theorem ByBook.lo {base B : Nat} {T : TypeId} {w : World} (hB : base ≤ B) (hw : base ≤ w.heap.size) {i : Nat} (h : ByBook base B T w i) : base ≤ i := by
  rcases h with rfl | h
  · exact hB
  · exact h.lo hw
/-- A row of elements stays while a Book is told of one. -/
theorem RowG.keepBook {E : TypeId} {q base base' B m k : Nat} {w w' : World} {v : Value} {n : Nat} {cs : List Value} {H : Nat → List Hb} (hr : RowG E q base' w v n cs) (hf : Far E) (h1 : 1 ≤ k) (h2 : k ≤ 15) (hb : BookAt base w B m H) (hk : Keeps (ByBook base B (HT k) w) w w') : RowG E q base' w' v n cs :=
  hr.keep hk (fun x hx hm => by
    obtain ⟨_, hlt, cur, hc⟩ := hr.ty hx
    rcases hm with rfl | ⟨_, cur2, h3⟩ | h3
    · obtain ⟨S, hB, _⟩ := hb.box
      exact hf.1 (ty_one hc hB)
    · exact hf.2 ⟨k, by omega⟩ h1 (ty_one h3 hc)
    · omega)
theorem BookAt.lower {base base' B m : Nat} {w : World} {H : Nat → List Hb} (h : BookAt base w B m H) (hb : base' ≤ base) : BookAt base' w B m H := by
  obtain ⟨S, h1, h2, h3⟩ := h.box
  exact ⟨⟨S, h1, fun k hk1 hk2 => own_lower (h2 k hk1 hk2) hb, h3⟩, Nat.le_trans hb h.lo, h.few, h.most⟩
/-- A Book that is new. -/
def noH : Nat → List Hb := fun _ => []
def zBook : List Value := bookV 0 (fun _ => .slice none 0 0)
theorem run_build_book (W : World) : (Instr.build 51 #[]).run Tryz.prog W = .ok (.agg zBook.toArray) W := by kernel_rfl
theorem exec_alloc_book (W : World) (o : Oper) (ho : o.op = .alloc 51) (ev : Operand → Value) : (execOp ev o).run Tryz.prog W = .ok (.value (.pointer (some ⟨W.heap.size, 0, none⟩))) (W.alloc (.cells zBook.toArray 51)) := by
  obtain ⟨d, op, t, p, af, g⟩ := o
  simp only at ho
  subst ho
  kernel_rfl
theorem Blk.whole {w : World} {g : Nat} {t : TypeId} {cs : List Value} (h : Blk w g t cs) (ds : List Value) (hl : ds.length = cs.length) : Blk (w.setCells g 0 ds) g t ds := by
  have := Blk.setCells ds 0 w cs h (by omega)
  rwa [splice_whole cs ds hl] at this
theorem book_blk {base B : Nat} {w : World} (h : Blk w B 51 zBook) (hb : base ≤ B) : BookAt base w B 0 noH :=
  ⟨⟨fun _ => .slice none 0 0, h, fun _ _ _ => own_nil _ _ _ _, fun _ _ => rfl⟩, hb, fun _ _ _ => by simp [noH], by omega⟩
theorem book_new {base : Nat} (w : World) (hb : base ≤ w.heap.size) : BookAt base (w.alloc (.cells zBook.toArray 51)) w.heap.size 0 noH := book_blk (Blk.new w 51 zBook) hb
theorem book_new2 {base : Nat} (w : World) (hb : base ≤ w.heap.size) : BookAt base ((w.alloc (.cells zBook.toArray 51)).setCells w.heap.size 0 zBook) w.heap.size 0 noH ∧ Below w.heap.size w ((w.alloc (.cells zBook.toArray 51)).setCells w.heap.size 0 zBook) :=
  ⟨book_blk ((Blk.new w 51 zBook).whole zBook rfl) hb, below_keeps ((Below.refl _ w).alloc (Nat.le_refl _) _) (Keeps.setCells zBook 0 _) (Nat.le_refl _) (fun i hi => by omega)⟩
end Go.Proofs.YtjikjdignhdipaaGreatDoor
