/- A table and the document's list answer alike: plain laws; both in one memory. -/
import Derived.Test.YtlmlklaleooliaaGPut
import Derived.Test.YtlmlklaleooliaaGTick
import Derived.Test.YtlmlklaleooliaaGRefPut
import Derived.Test.YtlmlklaleooliaaGRefTick
import Derived.Test.YtlmlklaleooliaaGActs
namespace Go.Proofs.Ytlmlklaleooliaa
open Go.RowKit
set_option linter.unusedSimpArgs false
set_option linter.unusedVariables false

theorem put_same {a l : List Gd} (h : Alike a l) {tag : List Int} {s k E E' : Int} {a' l' : List Gd} (hp : PutIs a tag s k E a') (hr : RPutIs l tag s k E' l') : E = E' ∧ Alike a' l' := by
  have hroom := room_alike h tag
  rcases hp with ⟨h1, rfl, rfl⟩ | ⟨h1, rfl, rfl, h2⟩ | ⟨h1, rfl, i, x, hx, hq, rfl⟩
  · rcases hr with ⟨_, rfl, rfl⟩ | ⟨h3, _⟩ | ⟨h3, _⟩
    · exact ⟨rfl, h⟩
    · exact absurd h1 h3
    · exact absurd h1 h3
  · rcases hr with ⟨h3, _⟩ | ⟨_, rfl, rfl, h3⟩ | ⟨_, _, h3, _⟩
    · exact absurd h3 h1
    · exact ⟨rfl, h⟩
    · exact absurd (hroom.2 h3) h2
  · have hin : (∃ e ∈ a, isTag tag e = true) ∨ ∃ e ∈ a, free e = true := by
      have hm := List.mem_of_getElem? hx
      rcases hq with h | ⟨h, _⟩
      · exact .inl ⟨x, hm, h⟩
      · exact .inr ⟨x, hm, h⟩
    rcases hr with ⟨h3, _⟩ | ⟨_, _, _, h3⟩ | ⟨_, rfl, h3, rfl⟩
    · exact absurd h3 h1
    · exact absurd (hroom.1 hin) h3
    · exact ⟨rfl, put_alike h tag s k (by omega) i x hx hq⟩
theorem get_same {a l : List Gd} (h : Alike a l) {tag : List Int} {s E s' E' : Int} (hp : GetIs a tag s E) (hr : RGetIs l tag s' E') : s = s' ∧ E = E' := by
  rcases hp with ⟨rfl, x, hx, hi, rfl⟩ | ⟨rfl, rfl, hno⟩
  · rcases hr with ⟨rfl, y, hy, ht, rfl⟩ | ⟨rfl, rfl, hno⟩
    · rw [same_entry h hx hi hy ht]; exact ⟨rfl, rfl⟩
    · exact absurd ((mem_taken h tag).1 ⟨x, hx, hi⟩) hno
  · rcases hr with ⟨rfl, y, hy, ht, rfl⟩ | ⟨rfl, rfl, _⟩
    · exact absurd ((mem_taken h tag).2 ⟨y, hy, ht⟩) hno
    · exact ⟨rfl, rfl⟩
theorem room_same {a l : List Gd} (h : Alike a l) (tag : List Int) : roomN a tag = rroomN l tag := by
  have hroom := room_alike h tag
  unfold roomN rroomN
  by_cases h1 : (without l tag).length < 8
  · rw [if_pos h1, if_pos (hroom.2 h1)]
  · rw [if_neg h1, if_neg (fun h => h1 (hroom.1 h))]
theorem Alike.ok {a l : List Gd} (h : Alike a l) : TabOk a := h.nat
theorem Alike.rok {a l : List Gd} (h : Alike a l) : ∀ e ∈ l, 1 ≤ e.ticks ∧ e.ticks ≤ 256 := fun e he => by
  have hm := List.mem_filter.1 (h.perm.mem_iff.2 he)
  have h1 := h.nat e hm.1
  have h2 := hm.2
  simp only [Gd.on, decide_eq_true_eq] at h2
  omega
theorem alike_new : Alike eight [] := by
  refine ⟨rfl, fun e he => ?_, ?_, by simp⟩
  · rw [List.eq_of_mem_replicate he]; simp
  · have : taken eight = [] := by
      rw [taken, List.filter_eq_nil_iff]
      intro e he
      rw [List.eq_of_mem_replicate he]
      simp [Gd.on]
    rw [this]

/-- Both tables in one memory. -/
structure Pair (w0 w : World) (T M : Nat) (a l : List Gd) : Prop where
  tab : TabAt w T a
  ref : RefAt w0.heap.size w M l
  below : Below w0.heap.size w0 w
  ne : M ≠ T
  t0 : w0.heap.size ≤ T
  m0 : w0.heap.size ≤ M
section
variable {w0 w w' : World} {T M : Nat} {a l a' l' : List Gd}
theorem Pair.next (h : Pair w0 w T M a l) (hB : Below w.heap.size w w') : Pair w0 w' T M a l := ⟨h.tab.below hB, h.ref.below hB, h.below.trans (hB.mono h.below.size), h.ne, h.t0, h.m0⟩
theorem Pair.drew (h : Pair w0 w T M a l) : Pair w0 w.drew T M a l := h.next (new_drew w)
theorem Pair.tabStep (h : Pair w0 w T M a l) (ht : TabAt w' T a') (hk : Keeps (· = T) w w') : Pair w0 w' T M a' l :=
  ⟨ht, h.ref.keepT hk h.tab.blk h.ne, below_keeps h.below hk (Nat.le_refl _) (fun i hi => by have := h.t0; omega), h.ne, h.t0, h.m0⟩
theorem Pair.refStep (h : Pair w0 w T M a l) (hr : RefAt w0.heap.size w' M l') (hk : Keeps (fun i => i = M ∨ w.heap.size ≤ i) w w') : Pair w0 w' T M a l' :=
  ⟨h.tab.keep hk (fun hi => hi.elim (fun e => h.ne e.symm) (fun hge => by have := h.tab.blk.lt; omega)), hr,
    below_keeps h.below hk (Nat.le_refl _) (fun i hi => hi.elim (fun e => by have := h.m0; omega) (fun hge => Nat.le_trans h.below.size hge)), h.ne, h.t0, h.m0⟩
theorem Pair.base (h : Pair w0 w T M a l) : w0.heap.size ≤ w.heap.size := h.below.size
end
/-- The act's own box. -/
structure XAt (w : World) (B T M : Nat) (x : Ac) : Prop where
  blk : Blk w B 27 (acC x)
  nt : B ≠ T
  nm : B ≠ M
section
variable {w w' : World} {B T M : Nat} {x : Ac}
theorem XAt.next (h : XAt w B T M x) (hB : Below w.heap.size w w') : XAt w' B T M x := ⟨h.blk.below hB h.blk.lt, h.nt, h.nm⟩
theorem XAt.drew (h : XAt w B T M x) : XAt w.drew B T M x := h.next (new_drew w)
theorem XAt.tabStep (h : XAt w B T M x) (hk : Keeps (· = T) w w') : XAt w' B T M x := ⟨h.blk.keep hk h.nt, h.nt, h.nm⟩
theorem XAt.refStep (h : XAt w B T M x) (hk : Keeps (fun i => i = M ∨ w.heap.size ≤ i) w w') : XAt w' B T M x :=
  ⟨h.blk.keep hk (fun hi => hi.elim (fun e => h.nm e) (fun hge => by have := h.blk.lt; omega)), h.nt, h.nm⟩
theorem XAt.parts (h : XAt w B T M x) (ht : x.tag.length = 16) :
    w.cell? ⟨B, 0, none⟩ = some (.int .u8 x.kind) ∧ w.rangeAt B 1 (x.tag.map (Value.int .u8)) ∧ w.cell? ⟨B, 17, none⟩ = some (.int .u32 x.spot) ∧ w.cell? ⟨B, 18, none⟩ = some (.int .u32 x.ticks) := by
  have := ac_at h.blk.range ht
  simpa using this
end
/-- An act in the list, in any later memory. -/
theorem Acts.at_ {w0 w : World} {A : Option Addr} {n : Nat} {xs : List Ac} (h : Acts w0 A n xs) (hB : Below w0.heap.size w0 w) {j : Nat} {x : Ac} (hx : xs[j]? = some x) :
    ∃ b off, A = some ⟨b, off, none⟩ ∧ b < w0.heap.size ∧ w.rangeAt b (off + j * 19) (acC x) := by
  have hj : j < n := by have := (List.getElem?_eq_some_iff.1 hx).1; have := h.len; omega
  obtain ⟨b, off, e, hb, hr⟩ := h.row (by omega)
  exact ⟨b, off, e, hb, fun i v hv => (hB.cell (p := ⟨b, off + j * 19 + i, none⟩) hb).trans (hr j x hx i v hv)⟩
end Go.Proofs.Ytlmlklaleooliaa
