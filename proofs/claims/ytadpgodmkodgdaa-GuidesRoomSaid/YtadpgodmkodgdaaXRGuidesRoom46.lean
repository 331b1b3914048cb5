/- Acts with a table: a list of them in memory; the parameter opened; A table of guides, in plain lists: as many as may be, and no more. -/
import Derived.Test.YtadpgodmkodgdaaXRGuidesRoom41
import Derived.Test.YtadpgodmkodgdaaXRGuidesRoom45
import Derived.Deep.Slices
import Derived.Test.YtadpgodmkodgdaaXRGuidesRoom44
namespace Go.Proofs.Ytadpgodmkodgdaa
open Go.RowKit Go.ChangeShapes Go.WideShapes
set_option linter.unusedSimpArgs false
set_option linter.unusedVariables false

structure Ac where
  kind : Int
  tag : List Int
  spot : Int
  ticks : Int
def acC (x : Ac) : List Value := .int .u8 x.kind :: (x.tag.map (Value.int .u8) ++ [.int .u32 x.spot, .int .u32 x.ticks])
structure OkAc (x : Ac) : Prop where
  kind : 0 ≤ x.kind ∧ x.kind ≤ 255
  tag : x.tag.length = 16
  spot : 0 ≤ x.spot ∧ x.spot ≤ 4294967295
  ticks : 0 ≤ x.ticks ∧ x.ticks ≤ 4294967295
theorem acC_length {x : Ac} (h : x.tag.length = 16) : (acC x).length = 19 := by simp [acC, h]
/-- Acts in memory. -/
structure Acts (w : World) (A : Option Addr) (n : Nat) (xs : List Ac) : Prop where
  len : xs.length = n
  ok : ∀ x ∈ xs, OkAc x
  row : 0 < n → ∃ b off, A = some ⟨b, off, none⟩ ∧ b < w.heap.size ∧ ∀ j x, xs[j]? = some x → w.rangeAt b (off + j * 19) (acC x)
theorem Acts.below {w w' : World} {A : Option Addr} {n : Nat} {xs : List Ac} (h : Acts w A n xs) (hB : Below w.heap.size w w') : Acts w' A n xs :=
  ⟨h.len, h.ok, fun h0 => by
    obtain ⟨b, off, e, hb, hr⟩ := h.row h0
    exact ⟨b, off, e, Nat.lt_of_lt_of_le hb hB.size, fun j x hx i v hv => (hB.cell (p := ⟨b, off + j * 19 + i, none⟩) hb).trans (hr j x hx i v hv)⟩⟩
/-- The parts of an act in memory. -/
theorem ac_at {w : World} {b o : Nat} {x : Ac} (h : w.rangeAt b o (acC x)) (ht : x.tag.length = 16) :
    w.cell? ⟨b, o, none⟩ = some (.int .u8 x.kind) ∧ w.rangeAt b (o + 1) (x.tag.map (Value.int .u8)) ∧ w.cell? ⟨b, o + 17, none⟩ = some (.int .u32 x.spot) ∧ w.cell? ⟨b, o + 18, none⟩ = some (.int .u32 x.ticks) := by
  refine ⟨?_, fun j v hv => ?_, ?_, ?_⟩
  · have := h 0 (.int .u8 x.kind) rfl
    rwa [Nat.add_zero] at this
  · have hj := (List.getElem?_eq_some_iff.1 hv).1
    have := h (j + 1) v (by rw [acC, List.getElem?_cons_succ, List.getElem?_append_left hj]; exact hv)
    rwa [show o + (j + 1) = o + 1 + j by omega] at this
  · exact h 17 _ (by rw [acC, List.getElem?_cons_succ, List.getElem?_append_right (by simp [ht])]; simp [ht])
  · exact h 18 _ (by rw [acC, List.getElem?_cons_succ, List.getElem?_append_right (by simp [ht])]; simp [ht])

set_option maxRecDepth 100000 in
theorem ac_parts (cs : List Value) (h : cs.length = 19) : cs.take 1 ++ ((cs.drop 1).take 16 ++ ((cs.drop 17).take 1 ++ (cs.drop 18).take 1)) = cs := by
  have a1 : (cs.drop 18).take 1 = cs.drop 18 := List.take_of_length_le (by simp [h])
  have a2 : (cs.drop 17).take 1 ++ cs.drop 18 = cs.drop 17 := by
    have := List.take_append_drop 1 (cs.drop 17)
    rw [List.drop_drop] at this
    exact this
  have a3 : (cs.drop 1).take 16 ++ cs.drop 17 = cs.drop 1 := by
    have := List.take_append_drop 16 (cs.drop 1)
    rw [List.drop_drop] at this
    exact this
  rw [a1, a2, a3]
  exact List.take_append_drop 1 cs
section
variable {H : Type} {enc : TypeId × Value → H} {w : World} {held : Bool} {fuel : Nat} {cs : List Value} {x : DataW H × List MemPlace}
set_option maxRecDepth 100000 in
theorem open_act (h : DataW.trod enc Try.prog w 0 (fun _ => true) held fuel 27 cs = some x) : ∃ a, cs = acC a ∧ OkAc a := by
  obtain ⟨hl, m, hp⟩ := open_struct Try.underlying27 h
  obtain ⟨y0, hy0, L0⟩ := hp 0 _ rfl
  obtain ⟨y1, hy1, L1⟩ := hp 1 _ rfl
  obtain ⟨y2, hy2, L2⟩ := hp 2 _ rfl
  obtain ⟨y3, hy3, L3⟩ := hp 3 _ rfl
  simp only at hy0 hy1 hy2 hy3
  obtain ⟨k, ek, wk⟩ := cell_int Try.underlying5 hy0
  obtain ⟨tl, et, htl, htw⟩ := open_array_ints Try.underlying23 Try.underlying5 (by kernel_rfl) (by kernel_rfl) hy1
  obtain ⟨s, es, ws⟩ := cell_int Try.underlying25 hy2
  obtain ⟨t, eti, wt⟩ := cell_int Try.underlying24 hy3
  rw [show Try.prog.cellsOf 27 = 19 by kernel_rfl] at hl
  rw [show Try.prog.cellsOf 5 = 1 by kernel_rfl] at ek
  rw [show Try.prog.cellsOf 23 = 16 by kernel_rfl] at et
  rw [show Try.prog.cellsOf 25 = 1 by kernel_rfl] at es
  rw [show Try.prog.cellsOf 24 = 1 by kernel_rfl] at eti
  have e := ac_parts cs hl
  rw [List.drop_zero] at ek
  rw [ek, et, es, eti] at e
  exact ⟨⟨k, tl, s, t⟩, e.symm, ⟨wf_bounds_u8 wk, htl, wf_bounds_u32 ws, wf_bounds_u32 wt⟩⟩
theorem list_of {α : Type} {p : Nat → α → Prop} : ∀ (n : Nat), (∀ i, i < n → ∃ x, p i x) → ∃ l : List α, l.length = n ∧ ∀ i x, l[i]? = some x → p i x
  | 0, _ => ⟨[], rfl, fun i x h => by simp at h⟩
  | n + 1, h => by
    obtain ⟨l, hl, hp⟩ := list_of n (fun i hi => h i (by omega))
    obtain ⟨x, hx⟩ := h n (by omega)
    refine ⟨l ++ [x], by simp [hl], fun i y hy => ?_⟩
    rcases Nat.lt_or_ge i n with hi | hi
    · rw [List.getElem?_append_left (by omega)] at hy
      exact hp i y hy
    · have hi2 : i < n + 1 := by
        have := (List.getElem?_eq_some_iff.1 hy).1
        simpa [hl] using this
      obtain rfl : i = n := by omega
      rw [List.getElem?_append_right (by omega), hl] at hy
      simp at hy
      subst hy
      exact hx
theorem open_acts (h : DataW.trod enc Try.prog w 0 (fun _ => true) held fuel 29 cs = some x) : ∃ A n c xs, cs = [.slice A n c] ∧ Acts w A n xs ∧ n ≤ maxLen := by
  rcases Go.Deep.open_slice Try.underlying29 h with ⟨rfl, _⟩ | ⟨a, len, cap, m, n, D, Pl, rfl, _, hl, hm, hmm, _, hx⟩
  · exact ⟨none, 0, 0, [], rfl, ⟨rfl, by simp, fun h => absurd h (by omega)⟩, by omega⟩
  · rw [show Try.prog.cellsOf 27 = 19 by kernel_rfl] at hx
    simp only [if_true] at hmm
    obtain ⟨xs, hxl, hxp⟩ := list_of (p := fun i y => OkAc y ∧ ∀ j, j < 19 → w.cell? ((a.add (i * 19)).add j) = (acC y)[j]?) len (fun i hi => by
      obtain ⟨cs', h1, h2⟩ := hx i (by omega)
      obtain ⟨y, rfl, hy⟩ := open_act h2
      obtain ⟨_, _, h3⟩ := World.cells?_some h1
      exact ⟨y, hy, h3⟩)
    refine ⟨some a, len, cap, xs, rfl, ⟨hxl, fun y hy => ?_, fun h0 => ?_⟩, by omega⟩
    · obtain ⟨i, hi, rfl⟩ := List.getElem_of_mem hy
      exact (hxp i _ (List.getElem?_eq_getElem hi)).1
    · obtain ⟨b, off, sp⟩ := a
      have hs : sp = none := by
        obtain ⟨_, h3⟩ := hxp 0 xs[0] (List.getElem?_eq_getElem (by omega))
        have h4 := h3 0 (by omega)
        rw [acC] at h4
        have := World.cell?_spot h4
        simpa [Addr.add] using this
      subst hs
      refine ⟨b, off, rfl, ?_, fun j y hj i v hv => ?_⟩
      · obtain ⟨_, h3⟩ := hxp 0 xs[0] (List.getElem?_eq_getElem (by omega))
        have h4 := h3 0 (by omega)
        rw [acC, Addr.add_mid, Addr.add_mid] at h4
        exact World.block_lt_of_cell? _ _ h4
      · obtain ⟨hy, h3⟩ := hxp j y hj
        have hi : i < 19 := by
          have := (List.getElem?_eq_some_iff.1 hv).1
          rwa [acC_length hy.tag] at this
        have h4 := h3 i hi
        rw [Addr.add_mid, Addr.add_mid] at h4
        rw [h4, hv]
end
end Go.Proofs.Ytadpgodmkodgdaa

namespace Go.Proofs.Ytadpgodmkodgdaa
set_option linter.unusedSimpArgs false
set_option linter.unusedVariables false

/-- The table holds those whose tags are told. -/
structure Full (a L : List Gd) (l : List (List Int)) : Prop where
  al : Alike a L
  perm : (L.map Gd.tag).Perm l
theorem full_new : Full eightG [] [] := ⟨alike_new, by simp⟩
theorem Full.len {a L : List Gd} {l : List (List Int)} (h : Full a L l) : (taken a).length = l.length := by
  rw [← h.al.length, ← h.perm.length_eq, List.length_map]
theorem Full.le {a L : List Gd} {l : List (List Int)} (h : Full a L l) : l.length ≤ 8 := by
  rw [← h.len, ← h.al.len]; exact taken_le a
theorem Full.was {a L : List Gd} {l : List (List Int)} (h : Full a L l) (tag : List Int) : (∃ e ∈ L, e.tag = tag) ↔ tag ∈ l := by
  rw [← h.perm.mem_iff, List.mem_map]
theorem Full.wo {a L : List Gd} {l : List (List Int)} (h : Full a L l) (tag : List Int) : (without L tag).length < 8 ↔ (tag ∈ l ∨ l.length < 8) := by
  have h1 := without_length h.al.unlike tag
  have h2 : L.length = l.length := by rw [← h.perm.length_eq, List.length_map]
  have h3 := h.le
  by_cases hw : tag ∈ l
  · rw [if_pos ((h.was tag).2 hw)] at h1
    exact ⟨fun _ => .inl hw, fun _ => by omega⟩
  · rw [if_neg (fun hc => hw ((h.was tag).1 hc))] at h1
    exact ⟨fun _ => .inr (by omega), fun hc => by rcases hc with hc | hc; exact absurd hc hw; omega⟩
theorem Full.room {a L : List Gd} {l : List (List Int)} (h : Full a L l) (tag : List Int) : ((tag ∈ l ∨ l.length < 8) → roomN a tag = 256) ∧ (¬ (tag ∈ l ∨ l.length < 8) → roomN a tag = 0) := by
  have h1 := room_alike h.al tag
  rw [h.wo] at h1
  unfold roomN
  exact ⟨fun hc => if_pos (h1.2 hc), fun hc => if_neg (fun hd => hc (h1.1 hd))⟩
theorem without_none {L : List Gd} {tag : List Int} (h : ¬ ∃ e ∈ L, e.tag = tag) : without L tag = L := by
  rw [without, List.filter_eq_self]
  intro e he
  simp only [decide_eq_true_eq]
  exact fun ht => h ⟨e, he, ht⟩
theorem Full.put {a a' L : List Gd} {l : List (List Int)} {tag : List Int} {s k E : Int} (h : Full a L l) (hp : PutIs a tag s k E a') (hs : s ≠ 0) (hk : 1 ≤ k ∧ k ≤ 256) :
    ((tag ∈ l ∨ l.length < 8) → E = 0 ∧ ∃ L', Full a' L' (if tag ∈ l then l else l ++ [tag])) ∧ (¬ (tag ∈ l ∨ l.length < 8) → E = 6 ∧ a' = a) := by
  have h1 := room_alike h.al tag
  rw [h.wo] at h1
  rcases hp with ⟨hv, _⟩ | ⟨_, he, ha, hno⟩ | ⟨hv, he, i, x, hx, hor, rfl⟩
  · omega
  · exact ⟨fun hc => absurd (h1.2 hc) hno, fun _ => ⟨he, ha⟩⟩
  · have hroom : (∃ e ∈ a, isTag tag e = true) ∨ ∃ e ∈ a, free e = true := by
      rcases hor with h2 | ⟨h2, _⟩
      · exact .inl ⟨x, List.mem_of_getElem? hx, h2⟩
      · exact .inr ⟨x, List.mem_of_getElem? hx, h2⟩
    refine ⟨fun _ => ⟨he, _, put_alike h.al tag s k hk i x hx hor, ?_⟩, fun hc => absurd (h1.1 hroom) hc⟩
    by_cases hw : tag ∈ l
    · rw [if_pos hw]
      have hnod : l.Nodup := h.perm.nodup_iff.1 h.al.unlike
      have h3 : (without L tag).map Gd.tag = (L.map Gd.tag).filter (fun t => decide (t ≠ tag)) := by
        rw [without, List.filter_map]; rfl
      rw [List.map_append, h3]
      have h4 : ((L.map Gd.tag).filter (fun t => decide (t ≠ tag))).Perm (l.filter (fun t => decide (t ≠ tag))) := h.perm.filter _
      have h5 : l.filter (fun t => decide (t ≠ tag)) = l.erase tag := by
        rw [hnod.erase_eq_filter]; congr 1; funext t; by_cases ht : t = tag <;> simp [ht]
      rw [h5] at h4
      have h6 : (tag :: l.erase tag).Perm l := (List.perm_cons_erase hw).symm
      have h7 : (((L.map Gd.tag).filter (fun t => decide (t ≠ tag))) ++ [tag]).Perm (tag :: l.erase tag) :=
        (List.perm_append_comm).trans (h4.cons tag)
      exact h7.trans h6
    · rw [if_neg hw, without_none (fun hc => hw ((h.was tag).1 hc)), List.map_append]
      exact h.perm.append_right _
end Go.Proofs.Ytadpgodmkodgdaa
