/- Parameters that are arrays or structs, opened: part by part. -/
import Derived.Test.YtgecfcdafbedaaaGreatZRParamsBodies0
import Derived.ChangeSlices
import Derived.ChangeArms
import Derived.SizedLaws
import Derived.ProofKit
import Derived.OpenShut
namespace Go.Proofs.YtgecfcdafbedaaaGreat
open Go.RowKit Go.ChangeShapes Go.WideShapes
set_option linter.unusedSimpArgs false
set_option linter.unusedVariables false
section
variable {H : Type} {enc : TypeId × Value → H} {P : Program} {w : World} {base : Nat} {spare : Nat → Bool} {held : Bool} {t e : TypeId} {fuel n : Nat} {cs : List Value} {x : DataW H × List MemPlace}

theorem mapM_parts {α β : Type} {f : α → Option β} : ∀ {L : List α} {xs : List β}, L.mapM f = some xs → xs.length = L.length ∧ ∀ (i : Nat) (a : α), L[i]? = some a → ∃ y, xs[i]? = some y ∧ f a = some y
  | [], xs, h => by
    simp at h
    subst h
    exact ⟨rfl, fun i a h => by simp at h⟩
  | a :: L, xs, h => by
    rw [List.mapM_cons] at h
    simp only [bind, Option.bind_eq_some_iff, pure, Option.some.injEq] at h
    obtain ⟨y, hy, ys, hys, rfl⟩ := h
    obtain ⟨hl, hp⟩ := mapM_parts hys
    refine ⟨by simp [hl], fun i b hb => ?_⟩
    cases i with
    | zero => simp at hb; subst hb; exact ⟨y, rfl, hy⟩
    | succ i => exact hp i b (by simpa using hb)

theorem weights_all {P : Program} {e : TypeId} : ∀ {l : List (DataW H)} {i : Nat} {d : DataW H}, l[i]? = some d → ∀ n ∈ d.weights P e, n ∈ DataW.weightsAll P e l
  | [], _, _, h, _, _ => by simp at h
  | d0 :: l, 0, d, h, n, hn => by
    simp at h; subst h
    simp only [DataW.weightsAll, List.mem_append]
    exact .inl hn
  | d0 :: l, i + 1, d, h, n, hn => by
    simp only [DataW.weightsAll, List.mem_append]
    exact .inr (weights_all (by simpa using h) n hn)

/-- All that a datum weighs is within reach. -/
def Light (P : Program) (t : TypeId) (d : DataW H) : Prop := (d.weights P t).all (· ≤ reachBytes) = true

/-- An array, part by part. -/
theorem open_array (hu : P.underlying t = some (.array n e)) (h : DataW.trod enc P w base spare held fuel t cs = some x) :
    cs.length = P.cellsOf t ∧ ∃ m, ∀ i, i < n → ∃ y, DataW.trod enc P w base spare held m e ((cs.drop (i * P.cellsOf e)).take (P.cellsOf e)) = some y ∧ (Light P t x.1 → Light P e y.1) := by
  cases fuel with
  | zero => simp [DataW.trod] at h
  | succ m =>
    rw [DataW.trod_step] at h
    unfold DataW.trodStep at h
    simp only [hu] at h
    split at h
    · rename_i hl
      simp only [Option.map_eq_some_iff] at h
      obtain ⟨ys, hy, rfl⟩ := h
      refine ⟨hl, m, fun i hi => ?_⟩
      obtain ⟨hlen, hp⟩ := mapM_parts hy
      obtain ⟨y, hy1, hy2⟩ := hp i i (by simp [hi])
      refine ⟨y, hy2, fun hL => List.all_eq_true.2 fun k hk => List.all_eq_true.1 hL k ?_⟩
      simp only [DataW.weights, hu]
      exact weights_all (i := i) (by simp [hy1]) k hk
    · cases h

/-- A struct, field by field. -/
theorem open_struct {fs : Array Field} (hu : P.underlying t = some (.struct fs)) (h : DataW.trod enc P w base spare held fuel t cs = some x) :
    cs.length = P.cellsOf t ∧ ∃ m, ∀ (i : Nat) (f : Field), fs.toList[i]? = some f → ∃ y, DataW.trod enc P w base spare held m f.type ((cs.drop f.offset).take (P.cellsOf f.type)) = some y ∧ (Light P t x.1 → Light P f.type y.1) := by
  cases fuel with
  | zero => simp [DataW.trod] at h
  | succ m =>
    rw [DataW.trod_step] at h
    unfold DataW.trodStep at h
    simp only [hu] at h
    split at h
    · rename_i hl
      simp only [Option.map_eq_some_iff] at h
      obtain ⟨ys, hy, rfl⟩ := h
      refine ⟨hl, m, fun i f hi => ?_⟩
      obtain ⟨hlen, hp⟩ := mapM_parts hy
      obtain ⟨y, hy1, hy2⟩ := hp i f hi
      refine ⟨y, hy2, fun hL => List.all_eq_true.2 fun k hk => List.all_eq_true.1 hL k ?_⟩
      simp only [DataW.weights, hu]
      exact DataW.weights_mem_each (j := i) (by simp [hi]) (by simp [hy1]) k hk
    · cases h

/-- A whole number, a bool. -/
theorem cell_int {k : IntKind} (hu : P.underlying t = some (.int k)) (h : DataW.trod enc P w base spare held fuel t cs = some x) : ∃ a, cs = [.int k a] ∧ (Lit.int k a).wf = true := by
  obtain ⟨a, h1, _, h2⟩ := DataW.trod_int hu h
  exact ⟨a, h1, h2⟩

theorem drop_one {α : Type} {l : List α} {i : Nat} {a : α} (h : (l.drop (i * 1)).take 1 = [a]) : l[i]? = some a := by
  have := congrArg (·[0]?) h
  simpa [List.getElem?_take, List.getElem?_drop] using this

/-- An array of whole numbers. -/
theorem open_array_ints {k : IntKind} (hu : P.underlying t = some (.array n e)) (he : P.underlying e = some (.int k)) (hc : P.cellsOf e = 1) (hct : P.cellsOf t = n) (h : DataW.trod enc P w base spare held fuel t cs = some x) :
    ∃ l : List Int, cs = l.map (Value.int k) ∧ l.length = n ∧ ∀ y ∈ l, (Lit.int k y).wf = true := by
  obtain ⟨hl, m, hp⟩ := open_array hu h
  rw [hct] at hl
  have each : ∀ i, i < n → ∃ a, cs[i]? = some (.int k a) ∧ (Lit.int k a).wf = true := by
    intro i hi
    obtain ⟨y, hy, _⟩ := hp i hi
    rw [hc] at hy
    obtain ⟨a, h1, h2⟩ := cell_int he hy
    exact ⟨a, drop_one h1, h2⟩
  refine ⟨cs.map (fun v => match v with | .int _ a => a | _ => 0), ?_, by simp [hl], ?_⟩
  · apply List.ext_getElem?
    intro i
    rcases Nat.lt_or_ge i n with hi | hi
    · obtain ⟨a, h1, _⟩ := each i hi
      simp [h1]
    · rw [List.getElem?_eq_none (by omega), List.getElem?_eq_none (by simp; omega)]
  · intro y hy
    obtain ⟨v, hv, rfl⟩ := List.mem_map.1 hy
    obtain ⟨i, hi, hvi⟩ := List.getElem_of_mem hv
    obtain ⟨a, h1, h2⟩ := each i (by omega)
    rw [List.getElem?_eq_getElem hi] at h1
    injection h1 with h1
    rw [← hvi, h1]
    exact h2

/-- A slice of whole numbers. -/
structure Sl (w : World) (k : IntKind) (A : Option Addr) (n c : Nat) (xs : List Int) : Prop where
  rd : Rd w k A n xs
  le : n ≤ c
  nil : A = none → c = 0
  cap : c ≤ 140737488351232
  plain : 0 < c → ∃ b off, A = some ⟨b, off, none⟩
theorem open_sl {k : IntKind} (ht : P.underlying t = some (.slice e)) (he : P.underlying e = some (.int k)) (hc : P.cellsOf e = 1) (hb : 0 < P.bytesOf e)
    (h : DataW.trod enc P w 0 (fun _ => true) held fuel t cs = some x) (hx : Light P t x.1) : ∃ A n c xs, cs = [.slice A n c] ∧ Sl w k A n c xs := by
  rcases open_ints ht he hc h with ⟨rfl, rfl⟩ | ⟨a, len, cap, zs, rfl, _, hl, hm, hz, rfl, hcell, hw⟩
  · exact ⟨none, 0, 0, [], rfl, ⟨rfl, by omega, by simp, fun h => absurd h (by omega)⟩, by omega, fun _ => rfl, by omega, fun h => absurd h (by omega)⟩
  · simp only [if_true] at hz
    have hy : (cap) * P.bytesOf e ≤ reachBytes := by
      have := List.all_eq_true.1 hx ((((zs.take len).length + (zs.drop len).length)) * P.bytesOf e) (by simp [DataW.weights, ht, lits])
      simp only [List.length_take, List.length_drop, hz, decide_eq_true_eq] at this
      rwa [show min len cap + (cap - len) = cap by omega] at this
    have hy' : cap * P.bytesOf e ≤ 140737488351232 := hy
    obtain ⟨u, c⟩ := rd_of_row (w := w) (k := k) (a := some a) (len := len) (cap := cap) (zs := zs) hb hy' (.inr ⟨a, rfl, hl, hm, hz, hcell, hw⟩)
    refine ⟨some a, len, cap, _, rfl, u, c, fun h => (by cases h), Nat.le_trans (Nat.le_mul_of_pos_right _ hb) hy', fun h0 => ?_⟩
    have h0' := hcell 0 (by omega)
    obtain ⟨b, off, sp⟩ := a
    have hs : sp = none := by simpa [Addr.add] using World.cell?_spot h0'
    exact ⟨b, off, by rw [hs]⟩
/-- A value that is one row of cells. -/
theorem okWide_agg {r : Reach} {b0 : Nat} {v : Value} (hu : (∃ fs, P.underlying t = some (.struct fs)) ∨ ∃ k f, P.underlying t = some (.array k f)) (h : Value.okWide P w r b0 t v) : ∃ cs, v = .agg cs ∧ cs.size = P.cellsOf t := by
  rcases hu with ⟨fs, hu⟩ | ⟨k, f, hu⟩ <;>
  · simp only [Value.okWide, hu] at h
    obtain ⟨cs, h1, h2, _⟩ := h
    exact ⟨cs, h1, h2⟩
end
end Go.Proofs.YtgecfcdafbedaaaGreat
