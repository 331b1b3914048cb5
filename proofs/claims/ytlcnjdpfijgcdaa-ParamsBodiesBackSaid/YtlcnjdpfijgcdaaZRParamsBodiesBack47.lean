/- Parameters that are arrays or structs, opened: part by part; The law ParamsBodiesBack: its parameter opened. -/
import Derived.Test.YtlcnjdpfijgcdaaZRParamsBodiesBack0
import Derived.ChangeSlices
import Derived.ChangeArms
import Derived.SizedLaws
import Derived.ProofKit
import Derived.OpenShut
import Derived.Test.YtlcnjdpfijgcdaaZRParamsBodiesBack46
namespace Go.Proofs.Ytlcnjdpfijgcdaa
open Go.RowKit Go.ChangeShapes Go.WideShapes
set_option linter.unusedSimpArgs false
set_option linter.unusedVariables false
section
variable {H : Type} {enc : TypeId × Value → H} {P : Program} {w : World} {base : Nat} {spare : Nat → Bool} {held : Bool} {t e : TypeId} {fuel n : Nat} {cs : List Value} {x : DataW H × List MemPlace}

theorem mapM_parts {α β : Type} {f : α → Option β} : ∀ {L : List α} {xs : List β}, L.mapM f = some xs → xs.length = L.length ∧ ∀ (i : Nat) (a : α), L[i]? = some a → ∃ y, xs[i]? = some y ∧ f a = some y
  | [], xs, h => by
    simp at h
    subst h
    exact ⟨rfl, fun i a h => by simp at h⟩
  | a :: L, xs, h => by
    rw [List.mapM_cons] at h
    simp only [bind, Option.bind_eq_some_iff, pure, Option.some.injEq] at h
    obtain ⟨y, hy, ys, hys, rfl⟩ := h
    obtain ⟨hl, hp⟩ := mapM_parts hys
    refine ⟨by simp [hl], fun i b hb => ?_⟩
    cases i with
    | zero => simp at hb; subst hb; exact ⟨y, rfl, hy⟩
    | succ i => exact hp i b (by simpa using hb)

theorem weights_all {P : Program} {e : TypeId} : ∀ {l : List (DataW H)} {i : Nat} {d : DataW H}, l[i]? = some d → ∀ n ∈ d.weights P e, n ∈ DataW.weightsAll P e l
  | [], _, _, h, _, _ => by simp at h
  | d0 :: l, 0, d, h, n, hn => by
    simp at h; subst h
    simp only [DataW.weightsAll, List.mem_append]
    exact .inl hn
  | d0 :: l, i + 1, d, h, n, hn => by
    simp only [DataW.weightsAll, List.mem_append]
    exact .inr (weights_all (by simpa using h) n hn)

/-- All that a datum weighs is within reach. -/
def Light (P : Program) (t : TypeId) (d : DataW H) : Prop := (d.weights P t).all (· ≤ reachBytes) = true

/-- An array, part by part. -/
theorem open_array (hu : P.underlying t = some (.array n e)) (h : DataW.trod enc P w base spare held fuel t cs = some x) :
    cs.length = P.cellsOf t ∧ ∃ m, ∀ i, i < n → ∃ y, DataW.trod enc P w base spare held m e ((cs.drop (i * P.cellsOf e)).take (P.cellsOf e)) = some y ∧ (Light P t x.1 → Light P e y.1) := by
  cases fuel with
  | zero => simp [DataW.trod] at h
  | succ m =>
    rw [DataW.trod_step] at h
    unfold DataW.trodStep at h
    simp only [hu] at h
    split at h
    · rename_i hl
      simp only [Option.map_eq_some_iff] at h
      obtain ⟨ys, hy, rfl⟩ := h
      refine ⟨hl, m, fun i hi => ?_⟩
      obtain ⟨hlen, hp⟩ := mapM_parts hy
      obtain ⟨y, hy1, hy2⟩ := hp i i (by simp [hi])
      refine ⟨y, hy2, fun hL => List.all_eq_true.2 fun k hk => List.all_eq_true.1 hL k ?_⟩
      simp only [DataW.weights, hu]
      exact weights_all (i := i) (by simp [hy1]) k hk
    · cases h

/-- A struct, field by field. -/
theorem open_struct {fs : Array Field} (hu : P.underlying t = some (.struct fs)) (h : DataW.trod enc P w base spare held fuel t cs = some x) :
    cs.length = P.cellsOf t ∧ ∃ m, ∀ (i : Nat) (f : Field), fs.toList[i]? = some f → ∃ y, DataW.trod enc P w base spare held m f.type ((cs.drop f.offset).take (P.cellsOf f.type)) = some y ∧ (Light P t x.1 → Light P f.type y.1) := by
  cases fuel with
  | zero => simp [DataW.trod] at h
  | succ m =>
    rw [DataW.trod_step] at h
    unfold DataW.trodStep at h
    simp only [hu] at h
    split at h
    · rename_i hl
      simp only [Option.map_eq_some_iff] at h
      obtain ⟨ys, hy, rfl⟩ := h
      refine ⟨hl, m, fun i f hi => ?_⟩
      obtain ⟨hlen, hp⟩ := mapM_parts hy
      obtain ⟨y, hy1, hy2⟩ := hp i f hi
      refine ⟨y, hy2, fun hL => List.all_eq_true.2 fun k hk => List.all_eq_true.1 hL k ?_⟩
      simp only [DataW.weights, hu]
      exact DataW.weights_mem_each (j := i) (by simp [hi]) (by simp [hy1]) k hk
    · cases h

/-- A whole number, a bool. -/
theorem cell_int {k : IntKind} (hu : P.underlying t = some (.int k)) (h : DataW.trod enc P w base spare held fuel t cs = some x) : ∃ a, cs = [.int k a] ∧ (Lit.int k a).wf = true := by
  obtain ⟨a, h1, _, h2⟩ := DataW.trod_int hu h
  exact ⟨a, h1, h2⟩

theorem drop_one {α : Type} {l : List α} {i : Nat} {a : α} (h : (l.drop (i * 1)).take 1 = [a]) : l[i]? = some a := by
  have := congrArg (·[0]?) h
  simpa [List.getElem?_take, List.getElem?_drop] using this

/-- An array of whole numbers. -/
theorem open_array_ints {k : IntKind} (hu : P.underlying t = some (.array n e)) (he : P.underlying e = some (.int k)) (hc : P.cellsOf e = 1) (hct : P.cellsOf t = n) (h : DataW.trod enc P w base spare held fuel t cs = some x) :
    ∃ l : List Int, cs = l.map (Value.int k) ∧ l.length = n ∧ ∀ y ∈ l, (Lit.int k y).wf = true := by
  obtain ⟨hl, m, hp⟩ := open_array hu h
  rw [hct] at hl
  have each : ∀ i, i < n → ∃ a, cs[i]? = some (.int k a) ∧ (Lit.int k a).wf = true := by
    intro i hi
    obtain ⟨y, hy, _⟩ := hp i hi
    rw [hc] at hy
    obtain ⟨a, h1, h2⟩ := cell_int he hy
    exact ⟨a, drop_one h1, h2⟩
  refine ⟨cs.map (fun v => match v with | .int _ a => a | _ => 0), ?_, by simp [hl], ?_⟩
  · apply List.ext_getElem?
    intro i
    rcases Nat.lt_or_ge i n with hi | hi
    · obtain ⟨a, h1, _⟩ := each i hi
      simp [h1]
    · rw [List.getElem?_eq_none (by omega), List.getElem?_eq_none (by simp; omega)]
  · intro y hy
    obtain ⟨v, hv, rfl⟩ := List.mem_map.1 hy
    obtain ⟨i, hi, hvi⟩ := List.getElem_of_mem hv
    obtain ⟨a, h1, h2⟩ := each i (by omega)
    rw [List.getElem?_eq_getElem hi] at h1
    injection h1 with h1
    rw [← hvi, h1]
    exact h2

/-- A slice of whole numbers. -/
structure Sl (w : World) (k : IntKind) (A : Option Addr) (n c : Nat) (xs : List Int) : Prop where
  rd : Rd w k A n xs
  le : n ≤ c
  nil : A = none → c = 0
  cap : c ≤ 140737488351232
  plain : 0 < c → ∃ b off, A = some ⟨b, off, none⟩
theorem open_sl {k : IntKind} (ht : P.underlying t = some (.slice e)) (he : P.underlying e = some (.int k)) (hc : P.cellsOf e = 1) (hb : 0 < P.bytesOf e)
    (h : DataW.trod enc P w 0 (fun _ => true) held fuel t cs = some x) (hx : Light P t x.1) : ∃ A n c xs, cs = [.slice A n c] ∧ Sl w k A n c xs := by
  rcases open_ints ht he hc h with ⟨rfl, rfl⟩ | ⟨a, len, cap, zs, rfl, _, hl, hm, hz, rfl, hcell, hw⟩
  · exact ⟨none, 0, 0, [], rfl, ⟨rfl, by omega, by simp, fun h => absurd h (by omega)⟩, by omega, fun _ => rfl, by omega, fun h => absurd h (by omega)⟩
  · simp only [if_true] at hz
    have hy : (cap) * P.bytesOf e ≤ reachBytes := by
      have := List.all_eq_true.1 hx ((((zs.take len).length + (zs.drop len).length)) * P.bytesOf e) (by simp [DataW.weights, ht, lits])
      simp only [List.length_take, List.length_drop, hz, decide_eq_true_eq] at this
      rwa [show min len cap + (cap - len) = cap by omega] at this
    have hy' : cap * P.bytesOf e ≤ 140737488351232 := hy
    obtain ⟨u, c⟩ := rd_of_row (w := w) (k := k) (a := some a) (len := len) (cap := cap) (zs := zs) hb hy' (.inr ⟨a, rfl, hl, hm, hz, hcell, hw⟩)
    refine ⟨some a, len, cap, _, rfl, u, c, fun h => (by cases h), Nat.le_trans (Nat.le_mul_of_pos_right _ hb) hy', fun h0 => ?_⟩
    have h0' := hcell 0 (by omega)
    obtain ⟨b, off, sp⟩ := a
    have hs : sp = none := by simpa [Addr.add] using World.cell?_spot h0'
    exact ⟨b, off, by rw [hs]⟩
/-- A value that is one row of cells. -/
theorem okWide_agg {r : Reach} {b0 : Nat} {v : Value} (hu : (∃ fs, P.underlying t = some (.struct fs)) ∨ ∃ k f, P.underlying t = some (.array k f)) (h : Value.okWide P w r b0 t v) : ∃ cs, v = .agg cs ∧ cs.size = P.cellsOf t := by
  rcases hu with ⟨fs, hu⟩ | ⟨k, f, hu⟩ <;>
  · simp only [Value.okWide, hu] at h
    obtain ⟨cs, h1, h2, _⟩ := h
    exact ⟨cs, h1, h2⟩
end
end Go.Proofs.Ytlcnjdpfijgcdaa

namespace Go.Proofs.Ytlcnjdpfijgcdaa
open Go.RowKit Go.ChangeShapes Go.WideShapes
set_option linter.unusedSimpArgs false
set_option linter.unusedVariables false

section
variable {H : Type} {enc : TypeId × Value → H} {w : World} {base : Nat} {spare : Nat → Bool} {held : Bool} {fuel : Nat} {cs : List Value} {x : DataW H × List MemPlace}
theorem cap_reach {P : Program} {t e : TypeId} {k : IntKind} (ht : P.underlying t = some (.slice e)) (he : P.underlying e = some (.int k)) (hc : P.cellsOf e = 1) (hb : 0 < P.bytesOf e)
    (h : DataW.trod enc P w 0 (fun _ => true) held fuel t cs = some x) (hx : Light P t x.1) : ∃ A n c xs, cs = [.slice A n c] ∧ Sl w k A n c xs ∧ c * P.bytesOf e ≤ 140737488351232 := by
  obtain ⟨A, n, c, xs, he1, hsl⟩ := open_sl ht he hc hb h hx
  refine ⟨A, n, c, xs, he1, hsl, ?_⟩
  rcases open_ints ht he hc h with ⟨h1, h2⟩ | ⟨a, len, cap, zs, h1, _, hl, hm, hz, rfl, hcell, hw⟩
  · rw [he1] at h1
    injection h1 with h1
    injection h1 with h1 h3 h4
    subst h4
    omega
  · rw [he1] at h1
    injection h1 with h1
    injection h1 with h1 h3 h4
    subst h4
    simp only [if_true] at hz
    have := List.all_eq_true.1 hx ((((zs.take len).length + (zs.drop len).length)) * P.bytesOf e) (by simp [DataW.weights, ht, lits])
    simp only [List.length_take, List.length_drop, hz, decide_eq_true_eq] at this
    rwa [show min len c + (c - len) = c by omega] at this
theorem two_partsB (cs : List Value) (a n k : Nat) (h : a + n = k) : (cs.drop a).take n ++ cs.drop k = cs.drop a := by
  subst h
  have := List.take_append_drop n (cs.drop a)
  rw [List.drop_drop] at this
  exact this
set_option maxRecDepth 100000 in
theorem open_puz (h : DataW.trod enc Try.prog w base spare held fuel 28 cs = some x) : ∃ u g bs, cs = puzP u g bs ∧ (0 ≤ u ∧ u ≤ 255) ∧ (0 ≤ g ∧ g ≤ 18446744073709551615) ∧ bs.length = 32 ∧ ∀ b ∈ bs, 0 ≤ b ∧ b ≤ 255 := by
  obtain ⟨hl, m, hp⟩ := open_struct Try.underlying28 h
  obtain ⟨y0, hy0, -⟩ := hp 0 _ rfl
  obtain ⟨y1, hy1, -⟩ := hp 1 _ rfl
  obtain ⟨y2, hy2, -⟩ := hp 2 _ rfl
  simp only at hy0 hy1 hy2
  obtain ⟨u, eu, wu⟩ := cell_int Try.underlying5 hy0
  obtain ⟨g, eg, wg⟩ := cell_int Try.underlying24 hy1
  obtain ⟨bs, eb, hbl, hbw⟩ := open_array_ints Try.underlying26 Try.underlying5 (by kernel_rfl) (by kernel_rfl) hy2
  rw [show Try.prog.cellsOf 28 = 34 by kernel_rfl] at hl
  rw [show Try.prog.cellsOf 5 = 1 by kernel_rfl] at eu
  rw [show Try.prog.cellsOf 24 = 1 by kernel_rfl] at eg
  rw [show Try.prog.cellsOf 26 = 32 by kernel_rfl] at eb
  have a1 : (cs.drop 2).take 32 = cs.drop 2 := List.take_of_length_le (by simp [hl])
  have e : (cs.drop 0).take 1 ++ ((cs.drop 1).take 1 ++ (cs.drop 2).take 32) = cs := by
    rw [a1, two_partsB cs 1 1 2 rfl, two_partsB cs 0 1 1 rfl]; rfl
  rw [eu, eg, eb] at e
  exact ⟨u, g, bs, e.symm, wf_bounds_u8 wu, wf_bounds_u64 wg, hbl, fun b hb => wf_bounds_u8 (hbw b hb)⟩
theorem list4 {l : List Int} (h : l.length = 4) : ∃ a b c d, l = [a, b, c, d] := by
  match l, h with
  | [a, b, c, d], _ => exact ⟨a, b, c, d, rfl⟩
set_option maxRecDepth 100000 in
theorem open_sig (h : DataW.trod enc Try.prog w base spare held fuel 32 cs = some x) : ∃ a b c d a' b' c' d', cs = ([a, b, c, d] ++ [a', b', c', d']).map (Value.int .u64) ∧ U64s [a, b, c, d] ∧ U64s [a', b', c', d'] := by
  obtain ⟨hl, m, hp⟩ := open_struct Try.underlying32 h
  obtain ⟨y0, hy0, -⟩ := hp 0 _ rfl
  obtain ⟨y1, hy1, -⟩ := hp 1 _ rfl
  simp only at hy0 hy1
  obtain ⟨f, ef, hfl, hfw⟩ := open_array_ints Try.underlying30 Try.underlying24 (by kernel_rfl) (by kernel_rfl) hy0
  obtain ⟨g, eg, hgl, hgw⟩ := open_array_ints Try.underlying30 Try.underlying24 (by kernel_rfl) (by kernel_rfl) hy1
  obtain ⟨a, b, c, d, rfl⟩ := list4 hfl
  obtain ⟨a', b', c', d', rfl⟩ := list4 hgl
  rw [show Try.prog.cellsOf 32 = 8 by kernel_rfl] at hl
  rw [show Try.prog.cellsOf 30 = 4 by kernel_rfl] at ef eg
  have a1 : (cs.drop 4).take 4 = cs.drop 4 := List.take_of_length_le (by simp [hl])
  have e : (cs.drop 0).take 4 ++ (cs.drop 4).take 4 = cs := by
    rw [a1, two_partsB cs 0 4 4 rfl]; rfl
  rw [ef, eg, ← List.map_append] at e
  exact ⟨a, b, c, d, a', b', c', d', e.symm, fun z hz => wf_bounds_u64 (hfw z hz), fun z hz => wf_bounds_u64 (hgw z hz)⟩
end
set_option maxRecDepth 100000 in
set_option maxHeartbeats 1000000 in
theorem paramsBodiesBack_walk {H : Type} {enc : TypeId × Value → H} {base : Nat} {d0 : DataW H} {p0 : List MemPlace} (v0 : Value) (w : World)
    (o0 : Value.okWide Try.prog w .any base 34 v0) (k0 : DataW.Trod enc Try.prog w 0 (fun _ => true) true 34 v0 d0 p0) (z0 : (d0.weights Try.prog 34).all (· ≤ reachBytes) = true) :
    Calls Try.prog 3 #[v0] w fun e w' => e = .returned (.bool true) ∧ Below w.heap.size w w' := by
  obtain ⟨cs0, rfl, hs0⟩ := okWide_agg (.inl ⟨_, Try.underlying34⟩) o0
  obtain ⟨f0, hf0⟩ := k0
  obtain ⟨hl, m, hp⟩ := open_struct Try.underlying34 hf0
  obtain ⟨y0, hy0, -⟩ := hp 0 _ rfl
  obtain ⟨y1, hy1, -⟩ := hp 1 _ rfl
  obtain ⟨y2, hy2, L2⟩ := hp 2 _ rfl
  obtain ⟨y3, hy3, -⟩ := hp 3 _ rfl
  obtain ⟨y4, hy4, -⟩ := hp 4 _ rfl
  obtain ⟨y5, hy5, -⟩ := hp 5 _ rfl
  simp only at hy0 hy1 hy2 hy3 hy4 hy5 L2
  obtain ⟨x, ex, wx⟩ := cell_int Try.underlying22 hy0
  obtain ⟨y, ey, wy⟩ := cell_int Try.underlying22 hy1
  obtain ⟨A, n, c, xs, el, hsl, hcap⟩ := cap_reach Try.underlying23 Try.underlying101 (by kernel_rfl) (by rw [show Try.prog.bytesOf 101 = 4 from by kernel_rfl]; omega) hy2 (L2 z0)
  obtain ⟨u, g, bs, ep, wu, wg, hbl, hbb⟩ := open_puz hy3
  obtain ⟨js, ej, hjl, hjw⟩ := open_array_ints Try.underlying26 Try.underlying5 (by kernel_rfl) (by kernel_rfl) hy4
  obtain ⟨a1, a2, a3, a4, b1, b2, b3, b4, es, ha, hb⟩ := open_sig hy5
  obtain ⟨cs0⟩ := cs0
  simp only [Value.cells] at hl ex ey el ep ej es
  rw [show Try.prog.cellsOf 34 = 77 by kernel_rfl] at hl
  rw [show Try.prog.cellsOf 22 = 1 by kernel_rfl] at ex ey
  rw [show Try.prog.cellsOf 23 = 1 by kernel_rfl] at el
  rw [show Try.prog.cellsOf 28 = 34 by kernel_rfl] at ep
  rw [show Try.prog.cellsOf 26 = 32 by kernel_rfl] at ej
  rw [show Try.prog.cellsOf 32 = 8 by kernel_rfl] at es
  rw [show Try.prog.bytesOf 101 = 4 from by kernel_rfl] at hcap
  have q1 : (cs0.drop 69).take 8 = cs0.drop 69 := List.take_of_length_le (by simp [hl])
  have e : (cs0.drop 0).take 1 ++ ((cs0.drop 1).take 1 ++ ((cs0.drop 2).take 1 ++ ((cs0.drop 3).take 34 ++ ((cs0.drop 37).take 32 ++ (cs0.drop 69).take 8)))) = cs0 := by
    rw [q1, two_partsB cs0 37 32 69 rfl, two_partsB cs0 3 34 37 rfl, two_partsB cs0 2 1 3 rfl, two_partsB cs0 1 1 2 rfl, two_partsB cs0 0 1 1 rfl]; rfl
  rw [ex, ey, el, ep, ej, es] at e
  have hcs : cs0 = bodC x y A n c (puzP u g bs) (js.map (Value.int .u8)) ([a1, a2, a3, a4].map (Value.int .u64)) ([b1, b2, b3, b4].map (Value.int .u64)) := by rw [← e]; rfl
  rw [hcs]
  have hP := puzP_len u g bs hbl
  have hJ : (js.map (Value.int .u8)).length = 32 := by rw [List.length_map]; exact hjl
  have hjb : ∀ b ∈ js, 0 ≤ b ∧ b ≤ 255 := fun b hb => wf_bounds_u8 (hjw b hb)
  have hP0 : (puzP u g bs)[0]? = some (.int .u8 u) := rfl
  have hS : ([a1, a2, a3, a4].map (Value.int .u64)) ++ ([b1, b2, b3, b4].map (Value.int .u64)) = ([a1, a2, a3, a4] ++ [b1, b2, b3, b4]).map (Value.int .u64) := rfl
  exact bback_at (S := ([a1, a2, a3, a4] ++ [b1, b2, b3, b4]).map (Value.int .u64)) (n := n) (c := c) (A := A) (xs := xs) (x := x) (y := y) (u := u) rfl rfl hsl.rd hsl.le (by have := hsl.le; omega) (wf_bounds_u32 wx) (wf_bounds_u32 wy)
    (fun W h => bod_parts hP hJ hP0 h) hP hJ rfl rfl (puzP_one u g bs) one_ints one_ints one_ints
    (fun W => puz_put u g bs W wu wg hbl hbb) (fun G cc W r l => puz_got u g bs G cc W wg hbl r l)
    (fun W => sol_put u g bs js W wu wg hbl hbb hjl hjb) (fun G cc W r l => sol_got u g bs js G cc W wg hbl hjl r l)
    (fun W => eq_sum 9998 js hjl W) (fun W => eq_puz 9997 u g bs hbl W) (fun W => eq_num 9998 [a1, a2, a3, a4] rfl W) (fun W => eq_sig 9997 [a1, a2, a3, a4] [b1, b2, b3, b4] rfl rfl W)
    (fun W => long_put a1 a2 a3 a4 W ha) (fun G cc W r l => long_got a1 a2 a3 a4 G cc W r l ha) (fun W => sum_put js W hjl hjb) (fun G cc W r l => sum_got js G cc W r l)
    (fun W => sig_put a1 a2 a3 a4 b1 b2 b3 b4 W ha hb) (fun G cc W r l => sig_got a1 a2 a3 a4 b1 b2 b3 b4 G cc W r l ha hb)
end Go.Proofs.Ytlcnjdpfijgcdaa
