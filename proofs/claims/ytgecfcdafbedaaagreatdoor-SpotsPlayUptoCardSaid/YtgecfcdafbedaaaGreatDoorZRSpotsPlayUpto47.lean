/- What the bulk of a reading bounds; Acts with a set of spots, opened; how much they are, by the bulk of what is read. -/
import Derived.Test.YtgecfcdafbedaaaGreatDoorRows
import Derived.Test.YtgecfcdafbedaaaGreatDoorZRSpotsPlayUpto3
import Derived.Test.YtgecfcdafbedaaaGreatDoorZRSpotsPlayUpto46
namespace Go.Proofs.YtgecfcdafbedaaaGreatDoor
open Go.RowKit Go.ChangeShapes Go.WideShapes
set_option linter.unusedSimpArgs false
set_option linter.unusedVariables false
section
variable {H : Type}
theorem bulk_one (d : DataW H) : 1 ≤ Rows.uptoBulk d := by
  cases d with
  | lit l => cases l <;> simp [Rows.uptoBulk]
  | nil => simp [Rows.uptoBulk]
  | ptr d => simp [Rows.uptoBulk]
  | slice elems spare => simp [Rows.uptoBulk]
  | agg parts => simp [Rows.uptoBulk]
  | iface t d => simp [Rows.uptoBulk]
  | map entries => simp [Rows.uptoBulk]
  | held h => simp [Rows.uptoBulk]
theorem bulk_part {d : DataW H} {l : List (DataW H)} (h : d ∈ l) : Rows.uptoBulk d ≤ Rows.uptoBulkAll l := by
  induction l with
  | nil => cases h
  | cons x r ih =>
    simp only [Rows.uptoBulkAll]
    rcases List.mem_cons.1 h with rfl | h
    · omega
    · have := ih h; omega
theorem bulk_len (l : List (DataW H)) : l.length ≤ Rows.uptoBulkAll l := by
  induction l with
  | nil => simp [Rows.uptoBulkAll]
  | cons x r ih => have := bulk_one x; simp only [Rows.uptoBulkAll, List.length_cons]; omega
theorem bulk_slice (elems spare : List (DataW H)) : elems.length + 1 ≤ Rows.uptoBulk (.slice elems spare) := by
  have h1 := bulk_len elems
  simp only [Rows.uptoBulk]
  omega
theorem bulk_small {l : List (DataW H)} (hk : Rows.uptoSmall H l = true) : Rows.uptoBulkAll l ≤ 1048576 := by simpa [Rows.uptoSmall] using hk
variable {enc : TypeId × Value → H} {P : Program} {w : World} {base : Nat} {spare : Nat → Bool} {held : Bool} {t e : TypeId} {fuel n : Nat} {cs : List Value} {x : DataW H × List MemPlace}
/-- A struct, field by field; the readings of the fields are parts of its own. -/
theorem open_structB {fs : Array Field} (hu : P.underlying t = some (.struct fs)) (h : DataW.trod enc P w base spare held fuel t cs = some x) :
    cs.length = P.cellsOf t ∧ ∃ m L, x.1 = .agg L ∧ ∀ (i : Nat) (f : Field), fs.toList[i]? = some f → ∃ y, DataW.trod enc P w base spare held m f.type ((cs.drop f.offset).take (P.cellsOf f.type)) = some y ∧ (Light P t x.1 → Light P f.type y.1) ∧ y.1 ∈ L := by
  cases fuel with
  | zero => simp [DataW.trod] at h
  | succ m =>
    rw [DataW.trod_step] at h
    unfold DataW.trodStep at h
    simp only [hu] at h
    split at h
    · rename_i hl
      simp only [Option.map_eq_some_iff] at h
      obtain ⟨ys, hy, rfl⟩ := h
      refine ⟨hl, m, _, rfl, fun i f hi => ?_⟩
      obtain ⟨hlen, hp⟩ := mapM_parts hy
      obtain ⟨y, hy1, hy2⟩ := hp i f hi
      refine ⟨y, hy2, fun hL => List.all_eq_true.2 fun k hk => List.all_eq_true.1 hL k ?_, ?_⟩
      · simp only [DataW.weights, hu]
        exact DataW.weights_mem_each (j := i) (by simp [hi]) (by simp [hy1]) k hk
      · exact List.mem_of_getElem? (i := i) (by simp [hy1])
    · cases h
/-- A list of whole numbers, how far it reaches, and its bulk. -/
theorem open_slB {k : IntKind} (ht : P.underlying t = some (.slice e)) (he : P.underlying e = some (.int k)) (hc : P.cellsOf e = 1) (hb : 0 < P.bytesOf e)
    (h : DataW.trod enc P w 0 (fun _ => true) held fuel t cs = some x) (hx : Light P t x.1) : ∃ A n c xs, cs = [.slice A n c] ∧ Sl w k A n c xs ∧ c * P.bytesOf e ≤ 140737488351232 ∧ n + 1 ≤ Rows.uptoBulk x.1 := by
  obtain ⟨A, n, c, xs, he1, hsl⟩ := open_sl ht he hc hb h hx
  refine ⟨A, n, c, xs, he1, hsl, ?_⟩
  rcases open_ints ht he hc h with ⟨h1, h2⟩ | ⟨a, len, cap, zs, h1, _, hl, hm, hz, rfl, hcell, hw⟩
  · rw [he1] at h1
    injection h1 with h1
    injection h1 with h1 h3 h4
    subst h3 h4
    exact ⟨by omega, by have := bulk_one x.1; omega⟩
  · rw [he1] at h1
    injection h1 with h1
    injection h1 with h1 h3 h4
    subst h3 h4
    simp only [if_true] at hz
    have := List.all_eq_true.1 hx ((((zs.take n).length + (zs.drop n).length)) * P.bytesOf e) (by simp [DataW.weights, ht, lits])
    simp only [List.length_take, List.length_drop, hz, decide_eq_true_eq] at this
    refine ⟨by rwa [show min n c + (c - n) = c by omega] at this, ?_⟩
    refine Nat.le_trans ?_ (bulk_slice _ _)
    simp [lits, hz]; omega
end
end Go.Proofs.YtgecfcdafbedaaaGreatDoor

namespace Go.Proofs.YtgecfcdafbedaaaGreatDoor
open Go.RowKit Go.ChangeShapes Go.WideShapes
set_option linter.unusedSimpArgs false
set_option linter.unusedVariables false
section
variable {H : Type} {enc : TypeId × Value → H} {w : World} {held : Bool} {fuel : Nat} {cs : List Value} {x : DataW H × List MemPlace}
set_option maxRecDepth 100000 in
theorem open_saB (h : DataW.trod enc Tryz.prog w 0 (fun _ => true) held fuel 54 cs = some x) (hx : Light Tryz.prog 54 x.1) : ∃ a, cs = saC a ∧ OkSa w a ∧ a.n + 2 ≤ Rows.uptoBulk x.1 := by
  obtain ⟨hl, m, L, hL, hp⟩ := open_structB Tryz.underlying54 h
  obtain ⟨y0, hy0, -, -⟩ := hp 0 _ rfl
  obtain ⟨y1, hy1, L1, M1⟩ := hp 1 _ rfl
  obtain ⟨y2, hy2, -, -⟩ := hp 2 _ rfl
  obtain ⟨y3, hy3, -, -⟩ := hp 3 _ rfl
  obtain ⟨y4, hy4, -, -⟩ := hp 4 _ rfl
  simp only at hy0 hy1 hy2 hy3 hy4 L1
  obtain ⟨k, ek, wk⟩ := cell_int Tryz.underlying5 hy0
  obtain ⟨A, n, c, xs, el, hsl, hcap, hbk⟩ := open_slB Tryz.underlying50 Tryz.underlying23 (by kernel_rfl) (by rw [show Tryz.prog.bytesOf 23 = 4 from by kernel_rfl]; omega) hy1 (L1 hx)
  obtain ⟨s, es, ws⟩ := cell_int Tryz.underlying23 hy2
  obtain ⟨tl, et, htl, htw⟩ := open_array_ints Tryz.underlying52 Tryz.underlying5 (by kernel_rfl) (by kernel_rfl) hy3
  obtain ⟨bt, eb, wb⟩ := cell_int Tryz.underlying3 hy4
  rw [show Tryz.prog.cellsOf 54 = 36 by kernel_rfl] at hl
  rw [show Tryz.prog.cellsOf 5 = 1 by kernel_rfl] at ek
  rw [show Tryz.prog.cellsOf 50 = 1 by kernel_rfl] at el
  rw [show Tryz.prog.cellsOf 23 = 1 by kernel_rfl] at es
  rw [show Tryz.prog.cellsOf 52 = 32 by kernel_rfl] at et
  rw [show Tryz.prog.cellsOf 3 = 1 by kernel_rfl] at eb
  rw [show Tryz.prog.bytesOf 23 = 4 from by kernel_rfl] at hcap
  have e := sa_parts cs hl
  rw [ek, el, es, et, eb] at e
  refine ⟨⟨k, A, n, c, xs, s, tl, bt⟩, e.symm, ⟨wf_bounds_u8 wk, hsl.rd, hsl.le, by simp only; omega, wf_bounds_u32 ws, htl, wf_bounds_i64 wb⟩, ?_⟩
  have h1 := bulk_part M1
  rw [hL]
  simp only [Rows.uptoBulk]
  omega
theorem gsum_bulk {D : Nat → DataW H} : ∀ (n : Nat) (xs : List Sa), xs.length = n → (∀ i y, xs[i]? = some y → y.n + 2 ≤ Rows.uptoBulk (D i)) → gsum xs ≤ 3 * Rows.uptoBulkAll ((List.range n).map D)
  | 0, xs, hl, _ => by rw [List.eq_nil_of_length_eq_zero hl]; simp [gsum]
  | n + 1, xs, hl, hp => by
    have hb : ∀ l r : List (DataW H), Rows.uptoBulkAll (l ++ r) = Rows.uptoBulkAll l + Rows.uptoBulkAll r := fun l r => by
      induction l with
      | nil => simp [Rows.uptoBulkAll]
      | cons x l ih => simp only [List.cons_append, Rows.uptoBulkAll, ih]; omega
    obtain ⟨y, hy⟩ : ∃ y, xs[n]? = some y := ⟨_, List.getElem?_eq_getElem (by omega)⟩
    have h1 := gsum_bulk n (xs.take n) (by simp; omega) (fun i z hz => by
      have hi := (List.getElem?_eq_some_iff.1 hz).1
      rw [List.getElem?_take, if_pos (by simp at hi; omega)] at hz
      exact hp i z hz)
    have h2 := gsum_next hy
    rw [List.take_of_length_le (by omega)] at h2
    have h3 := hp n y hy
    rw [List.range_succ, List.map_append, hb]
    simp only [List.map_cons, List.map_nil, Rows.uptoBulkAll]
    omega
theorem open_sactsB (h : DataW.trod enc Tryz.prog w 0 (fun _ => true) held fuel 24 cs = some x) (hx : Light Tryz.prog 24 x.1) (hb : Rows.uptoBulk x.1 ≤ 1048576) : ∃ A n c xs, cs = [.slice A n c] ∧ SActs w A n xs ∧ gsum xs ≤ 4000000 := by
  rcases Go.Deep.open_slice Tryz.underlying24 h with ⟨rfl, _⟩ | ⟨a, len, cap, m, n, D, Pl, rfl, _, hl, hm, hmm, rfl, hx2⟩
  · exact ⟨none, 0, 0, [], rfl, ⟨rfl, by simp, fun h => absurd h (by omega)⟩, by simp [gsum]⟩
  · rw [show Tryz.prog.cellsOf 54 = 36 by kernel_rfl] at hx2
    simp only [if_true] at hmm
    have hL : ∀ i, i < len → Light Tryz.prog 54 (D i) := fun i hi => List.all_eq_true.2 fun k hk => List.all_eq_true.1 hx k (by
      simp only [DataW.weights, Tryz.underlying24]
      refine List.mem_cons_of_mem _ (List.mem_append.2 (.inl ?_))
      exact weights_all (i := i) (d := D i) (by simp [hi]) k hk)
    obtain ⟨xs, hxl, hxp⟩ := list_ofS (p := fun i y => OkSa w y ∧ (∀ j, j < 36 → w.cell? ((a.add (i * 36)).add j) = (saC y)[j]?) ∧ y.n + 2 ≤ Rows.uptoBulk (D i)) len (fun i hi => by
      obtain ⟨cs', h1, h2⟩ := hx2 i (by omega)
      obtain ⟨y, rfl, hy, hyb⟩ := open_saB h2 (hL i hi)
      obtain ⟨_, _, h3⟩ := World.cells?_some h1
      exact ⟨y, hy, h3, hyb⟩)
    refine ⟨some a, len, cap, xs, rfl, ⟨hxl, fun y hy => ?_, fun h0 => ?_⟩, ?_⟩
    · obtain ⟨i, hi, rfl⟩ := List.getElem_of_mem hy
      exact (hxp i _ (List.getElem?_eq_getElem hi)).1
    · obtain ⟨b, off, sp⟩ := a
      have hs : sp = none := by
        obtain ⟨_, h3, _⟩ := hxp 0 xs[0] (List.getElem?_eq_getElem (by omega))
        have h4 := h3 0 (by omega)
        rw [saC] at h4
        have := World.cell?_spot h4
        simpa [Addr.add] using this
      subst hs
      refine ⟨b, off, rfl, ?_, fun j y hj i v hv => ?_⟩
      · obtain ⟨_, h3, _⟩ := hxp 0 xs[0] (List.getElem?_eq_getElem (by omega))
        have h4 := h3 0 (by omega)
        rw [saC, Addr.add_mid, Addr.add_mid] at h4
        exact World.block_lt_of_cell? _ _ h4
      · obtain ⟨hy, h3, _⟩ := hxp j y hj
        have hi : i < 36 := by
          have := (List.getElem?_eq_some_iff.1 hv).1
          rwa [saC_length hy.sum] at this
        have h4 := h3 i hi
        rw [Addr.add_mid, Addr.add_mid] at h4
        rw [h4, hv]
    · have h1 := gsum_bulk (D := D) len xs hxl (fun i y hy => (hxp i y hy).2.2)
      simp only [Rows.uptoBulk] at hb
      omega
end
set_option maxRecDepth 100000 in
theorem spotsPlay_walk {H : Type} {enc : TypeId × Value → H} {base : Nat} {d1 : DataW H} {p1 : List MemPlace} (a0 : Int) (v1 : Value) (w : World)
    (w0 : (Lit.int .u32 a0).wf = true) (o1 : Value.okWide Tryz.prog w .any base 24 v1) (k1 : DataW.Trod enc Tryz.prog w 0 (fun _ => true) true 24 v1 d1 p1) (z1 : (d1.weights Tryz.prog 24).all (· ≤ reachBytes) = true) (b1 : Rows.uptoBulk d1 ≤ 1048576) :
    Calls Tryz.prog 3 #[.int .u32 a0, v1] w fun e w' => e = .returned (.bool true) ∧ Below w.heap.size w w' := by
  obtain ⟨f0, hf0⟩ := k1
  obtain ⟨A, n, c, xs, ep, hps, hgs⟩ := open_sactsB hf0 z1 b1
  obtain ⟨av, nv, cv, rfl⟩ : ∃ av nv cv, v1 = .slice av nv cv := okWide_slice Tryz.underlying24 o1
  simp only [Value.cells] at ep
  have ev : Value.slice av nv cv = .slice A n c := by simpa using ep
  rw [ev]
  exact play_at a0 A n c xs w (wf_bounds_u32 w0) hps hgs
end Go.Proofs.YtgecfcdafbedaaaGreatDoor
