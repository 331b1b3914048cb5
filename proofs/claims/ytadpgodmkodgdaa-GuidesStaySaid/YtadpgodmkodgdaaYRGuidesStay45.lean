/- Parameters that are arrays or structs, opened: part by part; Acts with a table: a list of them in memory; the parameter opened. -/
import Derived.Test.YtadpgodmkodgdaaBase
import Derived.ChangeSlices
import Derived.ChangeArms
import Derived.SizedLaws
import Derived.ProofKit
import Derived.OpenShut
import Derived.Test.YtadpgodmkodgdaaYRGuidesStay40
import Derived.Deep.Slices
namespace Go.Proofs.Ytadpgodmkodgdaa
open Go.RowKit Go.ChangeShapes Go.WideShapes
set_option linter.unusedSimpArgs false
set_option linter.unusedVariables false
section
variable {H : Type} {enc : TypeId × Value → H} {P : Program} {w : World} {base : Nat} {spare : Nat → Bool} {held : Bool} {t e : TypeId} {fuel n : Nat} {cs : List Value} {x : DataW H × List MemPlace}

theorem mapM_parts {α β : Type} {f : α → Option β} : ∀ {L : List α} {xs : List β}, L.mapM f = some xs → xs.length = L.length ∧ ∀ (i : Nat) (a : α), L[i]? = some a → ∃ y, xs[i]? = some y ∧ f a = some y
  | [], xs, h => by
    simp at h
    subst h
    exact ⟨rfl, fun i a h => by simp at h⟩
  | a :: L, xs, h => by
    rw [List.mapM_cons] at h
    simp only [bind, Option.bind_eq_some_iff, pure, Option.some.injEq] at h
    obtain ⟨y, hy, ys, hys, rfl⟩ := h
    obtain ⟨hl, hp⟩ := mapM_parts hys
    refine ⟨by simp [hl], fun i b hb => ?_⟩
    cases i with
    | zero => simp at hb; subst hb; exact ⟨y, rfl, hy⟩
    | succ i => exact hp i b (by simpa using hb)

theorem weights_all {P : Program} {e : TypeId} : ∀ {l : List (DataW H)} {i : Nat} {d : DataW H}, l[i]? = some d → ∀ n ∈ d.weights P e, n ∈ DataW.weightsAll P e l
  | [], _, _, h, _, _ => by simp at h
  | d0 :: l, 0, d, h, n, hn => by
    simp at h; subst h
    simp only [DataW.weightsAll, List.mem_append]
    exact .inl hn
  | d0 :: l, i + 1, d, h, n, hn => by
    simp only [DataW.weightsAll, List.mem_append]
    exact .inr (weights_all (by simpa using h) n hn)

/-- All that a datum weighs is within reach. -/
def Light (P : Program) (t : TypeId) (d : DataW H) : Prop := (d.weights P t).all (· ≤ reachBytes) = true

/-- An array, part by part. -/
theorem open_array (hu : P.underlying t = some (.array n e)) (h : DataW.trod enc P w base spare held fuel t cs = some x) :
    cs.length = P.cellsOf t ∧ ∃ m, ∀ i, i < n → ∃ y, DataW.trod enc P w base spare held m e ((cs.drop (i * P.cellsOf e)).take (P.cellsOf e)) = some y ∧ (Light P t x.1 → Light P e y.1) := by
  cases fuel with
  | zero => simp [DataW.trod] at h
  | succ m =>
    rw [DataW.trod_step] at h
    unfold DataW.trodStep at h
    simp only [hu] at h
    split at h
    · rename_i hl
      simp only [Option.map_eq_some_iff] at h
      obtain ⟨ys, hy, rfl⟩ := h
      refine ⟨hl, m, fun i hi => ?_⟩
      obtain ⟨hlen, hp⟩ := mapM_parts hy
      obtain ⟨y, hy1, hy2⟩ := hp i i (by simp [hi])
      refine ⟨y, hy2, fun hL => List.all_eq_true.2 fun k hk => List.all_eq_true.1 hL k ?_⟩
      simp only [DataW.weights, hu]
      exact weights_all (i := i) (by simp [hy1]) k hk
    · cases h

/-- A struct, field by field. -/
theorem open_struct {fs : Array Field} (hu : P.underlying t = some (.struct fs)) (h : DataW.trod enc P w base spare held fuel t cs = some x) :
    cs.length = P.cellsOf t ∧ ∃ m, ∀ (i : Nat) (f : Field), fs.toList[i]? = some f → ∃ y, DataW.trod enc P w base spare held m f.type ((cs.drop f.offset).take (P.cellsOf f.type)) = some y ∧ (Light P t x.1 → Light P f.type y.1) := by
  cases fuel with
  | zero => simp [DataW.trod] at h
  | succ m =>
    rw [DataW.trod_step] at h
    unfold DataW.trodStep at h
    simp only [hu] at h
    split at h
    · rename_i hl
      simp only [Option.map_eq_some_iff] at h
      obtain ⟨ys, hy, rfl⟩ := h
      refine ⟨hl, m, fun i f hi => ?_⟩
      obtain ⟨hlen, hp⟩ := mapM_parts hy
      obtain ⟨y, hy1, hy2⟩ := hp i f hi
      refine ⟨y, hy2, fun hL => List.all_eq_true.2 fun k hk => List.all_eq_true.1 hL k ?_⟩
      simp only [DataW.weights, hu]
      exact DataW.weights_mem_each (j := i) (by simp [hi]) (by simp [hy1]) k hk
    · cases h

/-- A whole number, a bool. -/
theorem cell_int {k : IntKind} (hu : P.underlying t = some (.int k)) (h : DataW.trod enc P w base spare held fuel t cs = some x) : ∃ a, cs = [.int k a] ∧ (Lit.int k a).wf = true := by
  obtain ⟨a, h1, _, h2⟩ := DataW.trod_int hu h
  exact ⟨a, h1, h2⟩

theorem drop_one {α : Type} {l : List α} {i : Nat} {a : α} (h : (l.drop (i * 1)).take 1 = [a]) : l[i]? = some a := by
  have := congrArg (·[0]?) h
  simpa [List.getElem?_take, List.getElem?_drop] using this

/-- An array of whole numbers. -/
theorem open_array_ints {k : IntKind} (hu : P.underlying t = some (.array n e)) (he : P.underlying e = some (.int k)) (hc : P.cellsOf e = 1) (hct : P.cellsOf t = n) (h : DataW.trod enc P w base spare held fuel t cs = some x) :
    ∃ l : List Int, cs = l.map (Value.int k) ∧ l.length = n ∧ ∀ y ∈ l, (Lit.int k y).wf = true := by
  obtain ⟨hl, m, hp⟩ := open_array hu h
  rw [hct] at hl
  have each : ∀ i, i < n → ∃ a, cs[i]? = some (.int k a) ∧ (Lit.int k a).wf = true := by
    intro i hi
    obtain ⟨y, hy, _⟩ := hp i hi
    rw [hc] at hy
    obtain ⟨a, h1, h2⟩ := cell_int he hy
    exact ⟨a, drop_one h1, h2⟩
  refine ⟨cs.map (fun v => match v with | .int _ a => a | _ => 0), ?_, by simp [hl], ?_⟩
  · apply List.ext_getElem?
    intro i
    rcases Nat.lt_or_ge i n with hi | hi
    · obtain ⟨a, h1, _⟩ := each i hi
      simp [h1]
    · rw [List.getElem?_eq_none (by omega), List.getElem?_eq_none (by simp; omega)]
  · intro y hy
    obtain ⟨v, hv, rfl⟩ := List.mem_map.1 hy
    obtain ⟨i, hi, hvi⟩ := List.getElem_of_mem hv
    obtain ⟨a, h1, h2⟩ := each i (by omega)
    rw [List.getElem?_eq_getElem hi] at h1
    injection h1 with h1
    rw [← hvi, h1]
    exact h2

/-- A slice of whole numbers. -/
structure Sl (w : World) (k : IntKind) (A : Option Addr) (n c : Nat) (xs : List Int) : Prop where
  rd : Rd w k A n xs
  le : n ≤ c
  nil : A = none → c = 0
  cap : c ≤ 140737488351232
  plain : 0 < c → ∃ b off, A = some ⟨b, off, none⟩
theorem open_sl {k : IntKind} (ht : P.underlying t = some (.slice e)) (he : P.underlying e = some (.int k)) (hc : P.cellsOf e = 1) (hb : 0 < P.bytesOf e)
    (h : DataW.trod enc P w 0 (fun _ => true) held fuel t cs = some x) (hx : Light P t x.1) : ∃ A n c xs, cs = [.slice A n c] ∧ Sl w k A n c xs := by
  rcases open_ints ht he hc h with ⟨rfl, rfl⟩ | ⟨a, len, cap, zs, rfl, _, hl, hm, hz, rfl, hcell, hw⟩
  · exact ⟨none, 0, 0, [], rfl, ⟨rfl, by omega, by simp, fun h => absurd h (by omega)⟩, by omega, fun _ => rfl, by omega, fun h => absurd h (by omega)⟩
  · simp only [if_true] at hz
    have hy : (cap) * P.bytesOf e ≤ reachBytes := by
      have := List.all_eq_true.1 hx ((((zs.take len).length + (zs.drop len).length)) * P.bytesOf e) (by simp [DataW.weights, ht, lits])
      simp only [List.length_take, List.length_drop, hz, decide_eq_true_eq] at this
      rwa [show min len cap + (cap - len) = cap by omega] at this
    have hy' : cap * P.bytesOf e ≤ 140737488351232 := hy
    obtain ⟨u, c⟩ := rd_of_row (w := w) (k := k) (a := some a) (len := len) (cap := cap) (zs := zs) hb hy' (.inr ⟨a, rfl, hl, hm, hz, hcell, hw⟩)
    refine ⟨some a, len, cap, _, rfl, u, c, fun h => (by cases h), Nat.le_trans (Nat.le_mul_of_pos_right _ hb) hy', fun h0 => ?_⟩
    have h0' := hcell 0 (by omega)
    obtain ⟨b, off, sp⟩ := a
    have hs : sp = none := by simpa [Addr.add] using World.cell?_spot h0'
    exact ⟨b, off, by rw [hs]⟩
/-- A value that is one row of cells. -/
theorem okWide_agg {r : Reach} {b0 : Nat} {v : Value} (hu : (∃ fs, P.underlying t = some (.struct fs)) ∨ ∃ k f, P.underlying t = some (.array k f)) (h : Value.okWide P w r b0 t v) : ∃ cs, v = .agg cs ∧ cs.size = P.cellsOf t := by
  rcases hu with ⟨fs, hu⟩ | ⟨k, f, hu⟩ <;>
  · simp only [Value.okWide, hu] at h
    obtain ⟨cs, h1, h2, _⟩ := h
    exact ⟨cs, h1, h2⟩
end
end Go.Proofs.Ytadpgodmkodgdaa

namespace Go.Proofs.Ytadpgodmkodgdaa
open Go.RowKit Go.ChangeShapes Go.WideShapes
set_option linter.unusedSimpArgs false
set_option linter.unusedVariables false

structure Ac where
  kind : Int
  tag : List Int
  spot : Int
  ticks : Int
def acC (x : Ac) : List Value := .int .u8 x.kind :: (x.tag.map (Value.int .u8) ++ [.int .u32 x.spot, .int .u32 x.ticks])
structure OkAc (x : Ac) : Prop where
  kind : 0 ≤ x.kind ∧ x.kind ≤ 255
  tag : x.tag.length = 16
  spot : 0 ≤ x.spot ∧ x.spot ≤ 4294967295
  ticks : 0 ≤ x.ticks ∧ x.ticks ≤ 4294967295
theorem acC_length {x : Ac} (h : x.tag.length = 16) : (acC x).length = 19 := by simp [acC, h]
/-- Acts in memory. -/
structure Acts (w : World) (A : Option Addr) (n : Nat) (xs : List Ac) : Prop where
  len : xs.length = n
  ok : ∀ x ∈ xs, OkAc x
  row : 0 < n → ∃ b off, A = some ⟨b, off, none⟩ ∧ b < w.heap.size ∧ ∀ j x, xs[j]? = some x → w.rangeAt b (off + j * 19) (acC x)
theorem Acts.below {w w' : World} {A : Option Addr} {n : Nat} {xs : List Ac} (h : Acts w A n xs) (hB : Below w.heap.size w w') : Acts w' A n xs :=
  ⟨h.len, h.ok, fun h0 => by
    obtain ⟨b, off, e, hb, hr⟩ := h.row h0
    exact ⟨b, off, e, Nat.lt_of_lt_of_le hb hB.size, fun j x hx i v hv => (hB.cell (p := ⟨b, off + j * 19 + i, none⟩) hb).trans (hr j x hx i v hv)⟩⟩
/-- The parts of an act in memory. -/
theorem ac_at {w : World} {b o : Nat} {x : Ac} (h : w.rangeAt b o (acC x)) (ht : x.tag.length = 16) :
    w.cell? ⟨b, o, none⟩ = some (.int .u8 x.kind) ∧ w.rangeAt b (o + 1) (x.tag.map (Value.int .u8)) ∧ w.cell? ⟨b, o + 17, none⟩ = some (.int .u32 x.spot) ∧ w.cell? ⟨b, o + 18, none⟩ = some (.int .u32 x.ticks) := by
  refine ⟨?_, fun j v hv => ?_, ?_, ?_⟩
  · have := h 0 (.int .u8 x.kind) rfl
    rwa [Nat.add_zero] at this
  · have hj := (List.getElem?_eq_some_iff.1 hv).1
    have := h (j + 1) v (by rw [acC, List.getElem?_cons_succ, List.getElem?_append_left hj]; exact hv)
    rwa [show o + (j + 1) = o + 1 + j by omega] at this
  · exact h 17 _ (by rw [acC, List.getElem?_cons_succ, List.getElem?_append_right (by simp [ht])]; simp [ht])
  · exact h 18 _ (by rw [acC, List.getElem?_cons_succ, List.getElem?_append_right (by simp [ht])]; simp [ht])

set_option maxRecDepth 100000 in
theorem ac_parts (cs : List Value) (h : cs.length = 19) : cs.take 1 ++ ((cs.drop 1).take 16 ++ ((cs.drop 17).take 1 ++ (cs.drop 18).take 1)) = cs := by
  have a1 : (cs.drop 18).take 1 = cs.drop 18 := List.take_of_length_le (by simp [h])
  have a2 : (cs.drop 17).take 1 ++ cs.drop 18 = cs.drop 17 := by
    have := List.take_append_drop 1 (cs.drop 17)
    rw [List.drop_drop] at this
    exact this
  have a3 : (cs.drop 1).take 16 ++ cs.drop 17 = cs.drop 1 := by
    have := List.take_append_drop 16 (cs.drop 1)
    rw [List.drop_drop] at this
    exact this
  rw [a1, a2, a3]
  exact List.take_append_drop 1 cs
section
variable {H : Type} {enc : TypeId × Value → H} {w : World} {held : Bool} {fuel : Nat} {cs : List Value} {x : DataW H × List MemPlace}
set_option maxRecDepth 100000 in
theorem open_act (h : DataW.trod enc Try.prog w 0 (fun _ => true) held fuel 27 cs = some x) : ∃ a, cs = acC a ∧ OkAc a := by
  obtain ⟨hl, m, hp⟩ := open_struct Try.underlying27 h
  obtain ⟨y0, hy0, L0⟩ := hp 0 _ rfl
  obtain ⟨y1, hy1, L1⟩ := hp 1 _ rfl
  obtain ⟨y2, hy2, L2⟩ := hp 2 _ rfl
  obtain ⟨y3, hy3, L3⟩ := hp 3 _ rfl
  simp only at hy0 hy1 hy2 hy3
  obtain ⟨k, ek, wk⟩ := cell_int Try.underlying5 hy0
  obtain ⟨tl, et, htl, htw⟩ := open_array_ints Try.underlying23 Try.underlying5 (by kernel_rfl) (by kernel_rfl) hy1
  obtain ⟨s, es, ws⟩ := cell_int Try.underlying25 hy2
  obtain ⟨t, eti, wt⟩ := cell_int Try.underlying24 hy3
  rw [show Try.prog.cellsOf 27 = 19 by kernel_rfl] at hl
  rw [show Try.prog.cellsOf 5 = 1 by kernel_rfl] at ek
  rw [show Try.prog.cellsOf 23 = 16 by kernel_rfl] at et
  rw [show Try.prog.cellsOf 25 = 1 by kernel_rfl] at es
  rw [show Try.prog.cellsOf 24 = 1 by kernel_rfl] at eti
  have e := ac_parts cs hl
  rw [List.drop_zero] at ek
  rw [ek, et, es, eti] at e
  exact ⟨⟨k, tl, s, t⟩, e.symm, ⟨wf_bounds_u8 wk, htl, wf_bounds_u32 ws, wf_bounds_u32 wt⟩⟩
theorem list_of {α : Type} {p : Nat → α → Prop} : ∀ (n : Nat), (∀ i, i < n → ∃ x, p i x) → ∃ l : List α, l.length = n ∧ ∀ i x, l[i]? = some x → p i x
  | 0, _ => ⟨[], rfl, fun i x h => by simp at h⟩
  | n + 1, h => by
    obtain ⟨l, hl, hp⟩ := list_of n (fun i hi => h i (by omega))
    obtain ⟨x, hx⟩ := h n (by omega)
    refine ⟨l ++ [x], by simp [hl], fun i y hy => ?_⟩
    rcases Nat.lt_or_ge i n with hi | hi
    · rw [List.getElem?_append_left (by omega)] at hy
      exact hp i y hy
    · have hi2 : i < n + 1 := by
        have := (List.getElem?_eq_some_iff.1 hy).1
        simpa [hl] using this
      obtain rfl : i = n := by omega
      rw [List.getElem?_append_right (by omega), hl] at hy
      simp at hy
      subst hy
      exact hx
theorem open_acts (h : DataW.trod enc Try.prog w 0 (fun _ => true) held fuel 29 cs = some x) : ∃ A n c xs, cs = [.slice A n c] ∧ Acts w A n xs ∧ n ≤ maxLen := by
  rcases Go.Deep.open_slice Try.underlying29 h with ⟨rfl, _⟩ | ⟨a, len, cap, m, n, D, Pl, rfl, _, hl, hm, hmm, _, hx⟩
  · exact ⟨none, 0, 0, [], rfl, ⟨rfl, by simp, fun h => absurd h (by omega)⟩, by omega⟩
  · rw [show Try.prog.cellsOf 27 = 19 by kernel_rfl] at hx
    simp only [if_true] at hmm
    obtain ⟨xs, hxl, hxp⟩ := list_of (p := fun i y => OkAc y ∧ ∀ j, j < 19 → w.cell? ((a.add (i * 19)).add j) = (acC y)[j]?) len (fun i hi => by
      obtain ⟨cs', h1, h2⟩ := hx i (by omega)
      obtain ⟨y, rfl, hy⟩ := open_act h2
      obtain ⟨_, _, h3⟩ := World.cells?_some h1
      exact ⟨y, hy, h3⟩)
    refine ⟨some a, len, cap, xs, rfl, ⟨hxl, fun y hy => ?_, fun h0 => ?_⟩, by omega⟩
    · obtain ⟨i, hi, rfl⟩ := List.getElem_of_mem hy
      exact (hxp i _ (List.getElem?_eq_getElem hi)).1
    · obtain ⟨b, off, sp⟩ := a
      have hs : sp = none := by
        obtain ⟨_, h3⟩ := hxp 0 xs[0] (List.getElem?_eq_getElem (by omega))
        have h4 := h3 0 (by omega)
        rw [acC] at h4
        have := World.cell?_spot h4
        simpa [Addr.add] using this
      subst hs
      refine ⟨b, off, rfl, ?_, fun j y hj i v hv => ?_⟩
      · obtain ⟨_, h3⟩ := hxp 0 xs[0] (List.getElem?_eq_getElem (by omega))
        have h4 := h3 0 (by omega)
        rw [acC, Addr.add_mid, Addr.add_mid] at h4
        exact World.block_lt_of_cell? _ _ h4
      · obtain ⟨hy, h3⟩ := hxp j y hj
        have hi : i < 19 := by
          have := (List.getElem?_eq_some_iff.1 hv).1
          rwa [acC_length hy.tag] at this
        have h4 := h3 i hi
        rw [Addr.add_mid, Addr.add_mid] at h4
        rw [h4, hv]
end
end Go.Proofs.Ytadpgodmkodgdaa
