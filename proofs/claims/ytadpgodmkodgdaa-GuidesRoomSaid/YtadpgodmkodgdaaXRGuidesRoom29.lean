/- The walks over slices.IndexFunc, slices.DeleteFunc at pieces; params.Find's and params.Below's own tests of a piece. -/
import Derived.Test.YtadpgodmkodgdaaXRGuidesRoom28
namespace Go.Proofs.Ytadpgodmkodgdaa
open Go.RowKit
set_option linter.unusedSimpArgs false
set_option linter.unusedVariables false

set_option maxHeartbeats 1000000 in
theorem findc_any (u t : Int) (B : Option Addr) (m c k : Nat) (w : World) (hk : k < w.heap.size) (hc : w.cell? ⟨k, 0, none⟩ = some (.int .u16 t)) :
    Calls Try.prog 25 #[.agg #[.int .u16 u, .slice B m c], .pointer (some ⟨k, 0, none⟩)] w fun e w' => e = .returned (.bool (decide (u = t))) ∧ Below w.heap.size w w' := by
  by_cases h : u = t
  · subst h
    go_enter Try.func25, Try.ntmps25
    go_wp2_with fail
    go_ret
    exact ⟨ret_bool (by simp), new_belowB w _⟩
  · go_enter Try.func25, Try.ntmps25
    go_wp2_with fail
    go_ret
    exact ⟨ret_bool (by simp [h]), new_belowB w _⟩
set_option maxHeartbeats 1000000 in
theorem belowc_any (u t : Int) (B : Option Addr) (m c k : Nat) (w : World) (hk : k < w.heap.size) (hc : w.cell? ⟨k, 0, none⟩ = some (.int .u16 t)) :
    Calls Try.prog 73 #[.agg #[.int .u16 u, .slice B m c], .pointer (some ⟨k, 0, none⟩)] w fun e w' => e = .returned (.bool (decide (t ≤ u))) ∧ Below w.heap.size w w' := by
  by_cases h : t ≤ u
  · go_enter Try.func73, Try.ntmps73
    go_wp2_with fail
    go_ret
    exact ⟨ret_bool (by simp [h]), new_belowB w _⟩
  · go_enter Try.func73, Try.ntmps73
    go_wp2_with fail
    go_ret
    exact ⟨ret_bool (by simp [h]), new_belowB w _⟩

/-- Pieces of such types, whatever their bodies are. -/
def TyRow (w : World) (A : Option Addr) (n : Nat) (ts : List Int) : Prop :=
  ts.length = n ∧ n < 1099511627776 ∧ (0 < n → ∃ b off, A = some ⟨b, off, none⟩ ∧ b < w.heap.size ∧ ∀ j, j < n → ∃ t B m c, ts[j]? = some t ∧ w.cell? ⟨b, off + j * 2, none⟩ = some (.int .u16 t) ∧ w.cell? ⟨b, off + j * 2 + 1, none⟩ = some (.slice B m c))
theorem TyRow.below {w w' : World} {A : Option Addr} {n : Nat} {ts : List Int} (h : TyRow w A n ts) (hB : Below w.heap.size w w') : TyRow w' A n ts :=
  ⟨h.1, h.2.1, fun h0 => by
    obtain ⟨b, off, e, hb, hc⟩ := h.2.2 h0
    refine ⟨b, off, e, Nat.lt_of_lt_of_le hb hB.size, fun j hj => ?_⟩
    obtain ⟨t, B, m, c, h1, h2, h3⟩ := hc j hj
    exact ⟨t, B, m, c, h1, (hB.cell (p := ⟨b, off + j * 2, none⟩) hb).trans h2, (hB.cell (p := ⟨b, off + j * 2 + 1, none⟩) hb).trans h3⟩⟩
theorem Ps.tyRow {w : World} {A : Option Addr} {n : Nat} {ps : List Piece} (h : Ps w A n ps) (hn : n < 1099511627776) : TyRow w A n (ps.map (·.1)) :=
  ⟨by rw [List.length_map, h.len], hn, fun h0 => by
    obtain ⟨b, off, e, hb, hc⟩ := h.row h0
    refine ⟨b, off, e, hb, fun j hj => ?_⟩
    obtain ⟨t, body, B, m, c, h1, h2, h3, h4, _⟩ := hc j hj
    exact ⟨t, B, m, c, by rw [List.getElem?_map, h1]; rfl, h3, h4⟩⟩
theorem tyRow_blk {w : World} {G n : Nat} {hs : List Hd} {rest : List Value} (hk : Blk w G 69 (hcells hs ++ rest)) (hl : hs.length = n) (hn : n < 1099511627776) : TyRow w (some ⟨G, 0, none⟩) n (hs.map (·.p.1)) :=
  ⟨by simpa using hl, hn, fun h0 => ⟨G, 0, rfl, hk.lt, fun j hj => by
    obtain ⟨x, hx⟩ : ∃ x, hs[j]? = some x := ⟨_, List.getElem?_eq_getElem (by omega)⟩
    obtain ⟨e1, e2⟩ := hcells_at hx
    have hcl := hcells_length hs
    refine ⟨x.p.1, x.B, x.p.2.length, x.c, by rw [List.getElem?_map, hx]; rfl, ?_, ?_⟩
    · rw [Nat.zero_add, hk.cell, List.getElem?_append_left (by omega)]; exact e1
    · rw [Nat.zero_add, hk.cell, List.getElem?_append_left (by omega)]; exact e2⟩⟩
/-- The first one that is so, or none. -/
def IdxAt (ts : List Int) (pr : Int → Bool) (r : Int) : Prop :=
  (r = -1 ∧ ∀ t ∈ ts, pr t = false) ∨ ∃ k : Nat, r = (k : Int) ∧ k < ts.length ∧ (∀ j t, j < k → ts[j]? = some t → pr t = false) ∧ ∃ t, ts[k]? = some t ∧ pr t = true

set_option maxRecDepth 100000 in
set_option maxHeartbeats 2000000 in
theorem idxp_any (f : FuncId) (eg : ∀ args w, (callFunc f args).run Try.prog w = .ok (.enter f args) w) (cap : Value) (pr : Int → Bool) (A : Option Addr) (n c : Nat) (ts : List Int) (w : World) (h : TyRow w A n ts)
    (hcall : ∀ (W : World) (u : Int) (B : Option Addr) (m c : Nat), Below w.heap.size w W → Calls Try.prog f #[.agg #[.int .u16 u, .slice B m c], cap] W fun e W' => e = .returned (.bool (pr u)) ∧ Below W.heap.size W W') :
    Calls Try.prog 24 #[.slice A n c, .func (.func f) #[] #[cap]] w fun e w' => ∃ r, e = .returned (.int .i64 r) ∧ IdxAt ts pr r ∧ Below w.heap.size w w' := by
  have hl := h.1
  have hbig := h.2.1
  have HT := Lib.hid h
  have HCALL := Lib.hid hcall
  have HL := Lib.hid hl
  clear h hcall hl
  go_enter Try.func24, Try.ntmps24
  go_wp2_with fail
  go_loopw [8] (fun i wr => ∃ k : Nat, k ≤ n ∧ i = .int .i64 k ∧ (∀ j t, j < k → ts[j]? = some t → pr t = false) ∧ Below w.heap.size w wr) (fun i _ => n - (intOf i).toNat)
  case atStart => exact ⟨0, Nat.zero_le _, rfl, fun j t hj => absurd hj (by omega), Below.refl _ _⟩
  case round =>
    obtain ⟨k, hk, rfl, hpre, hB⟩ := hrel
    have HPRE := Lib.hid hpre
    have HB := Lib.hid hB
    clear hpre
    by_cases hlt : k < n
    · obtain ⟨b, off, rfl, hb, hc⟩ := (HT.out.below hB).2.2 (by omega)
      obtain ⟨t, B, m, d, h1, h2, h3⟩ := hc k hlt
      have hcl := HCALL.out wr t B m d hB
      obtain ⟨q, hq⟩ : ∃ q, pr t = q := ⟨_, rfl⟩
      rw [hq] at hcl
      have HQ := Lib.hid hq
      have HC := Lib.hid hcl
      have H1 := Lib.hid h1
      have i0 : (0 : Int) ≤ (k : Int) := by omega
      have i1 : (k : Int) < (n : Int) := by omega
      clear hq hcl h1 hc hB
      cases q with
      | true =>
        go_wp2_with (go_at_fn f; refine HC.out.mono ?_; rintro e w1 ⟨rfl, hB1⟩; have HB1 := Lib.hid (HB.out.trans (hB1.mono HB.out.size)); clear hB1)
        go_ret
        exact ⟨(k : Int), rfl, .inr ⟨k, rfl, by rw [HL.out]; exact hlt, HPRE.out, t, H1.out, HQ.out⟩, HB1.out⟩
      | false =>
        go_wp2_with (go_at_fn f; refine HC.out.mono ?_; rintro e w1 ⟨rfl, hB1⟩; have HB1 := Lib.hid (HB.out.trans (hB1.mono HB.out.size)); clear hB1)
        go_roundw
        case rel =>
          refine ⟨k + 1, by omega, by go_num, fun j u hj hu => ?_, HB1.out⟩
          rcases Nat.lt_or_ge j k with h | h
          · exact HPRE.out j u h hu
          · obtain rfl : j = k := by omega
            rw [H1.out] at hu
            injection hu with hu
            subst hu
            exact HQ.out
        case measure => simp [intOf]; omega
    · obtain rfl : k = n := by omega
      clear hB
      go_wp2_with fail
      go_ret
      refine ⟨-1, rfl, .inl ⟨rfl, fun t ht => ?_⟩, HB.out⟩
      obtain ⟨j, hj⟩ := List.mem_iff_getElem?.1 ht
      exact HPRE.out j t (by have := (List.getElem?_eq_some_iff.1 hj).1; rw [HL.out] at this; exact this) hj

/-- clear of pieces: their cells are noughts. -/
theorem run_clear_ps (G o m c : Nat) (hm : 0 < m) : ∃ Z : List Value, Z.length = m * 2 ∧ ∀ (w : World) ty, w.there G o (m * 2) → (Builtin.clear_ #[43] ty #[.slice (some ⟨G, o, none⟩) m c]).run Try.prog w = .ok (.tuple #[]) (w.setCells G o Z) := by
  have hv : ∀ w, (zeroValue 69).run Try.prog w = .ok (.agg #[.int .u16 0, .slice none 0 0]) w := fun w => by kernel_rfl
  refine ⟨(Builtin.zeroCells #[.int .u16 0, .slice none 0 0] m).toList, by simp [Builtin.zeroCells], fun w ty hth => ?_⟩
  have hone : ∀ v ∈ (Builtin.zeroCells #[Value.int .u16 0, .slice none 0 0] m).toList, v.oneCell' = true := by
    intro v hv
    simp only [Builtin.zeroCells, Array.toList_map, List.mem_map] at hv
    obtain ⟨i, _, rfl⟩ := hv
    have : i % 2 = 0 ∨ i % 2 = 1 := by omega
    rcases this with h | h <;> simp [h, Value.oneCell']
  have hst := run_storeCells_cells (P := Try.prog) G o (Builtin.zeroCells #[Value.int .u16 0, .slice none 0 0] m).toList 0 w (fun j hj => by
    have := (hth j (by simpa [Builtin.zeroCells] using hj)).1
    simpa using this) (fun j hj => by
    have := (hth j (by simpa [Builtin.zeroCells] using hj)).2
    simpa using this) hone
  simp only [Nat.add_zero] at hst
  obtain ⟨m', rfl⟩ : ∃ m', m = m' + 1 := ⟨m - 1, by omega⟩
  have hcl : (Value.agg #[.int .u16 0, .slice none 0 0]).cells = #[.int .u16 0, .slice none 0 0] := rfl
  simp [Builtin.clear_, run_underlying Try.underlying43, hv, hcl, hst]
theorem splice_mid {α : Type} (L M R ys : List α) (o : Nat) (ho : L.length = o) (hy : ys.length ≤ M.length) : splice (L ++ M ++ R) o ys = L ++ ys ++ M.drop ys.length ++ R := by
  subst ho
  simp [splice, List.drop_append, Nat.sub_eq_zero_of_le hy]

theorem below_keep (t : Int) (hs : List Hd) : (hs.filter (fun h => decide (h.p.1 < t))).map (·.p) = paBelow (hs.map (·.p)) t := by
  induction hs with
  | nil => rfl
  | cons h hs ih =>
    by_cases hh : h.p.1 < t
    · simp only [paBelow, List.map_cons, List.filter_cons, hh, decide_true, if_true] at ih ⊢
      rw [ih]
    · simp only [paBelow, List.map_cons, List.filter_cons, hh, decide_false] at ih ⊢
      simpa using ih

theorem eg_belowc : ∀ args w, (callFunc 73 args).run Try.prog w = .ok (.enter 73 args) w := enters_of Try.func73 (by kernel_rfl) rfl
theorem eg_findc : ∀ args w, (callFunc 25 args).run Try.prog w = .ok (.enter 25 args) w := enters_of Try.func25 (by kernel_rfl) rfl
/-- What holds in the course of DeleteFunc: behind those that stay lies what is passed over, and what is not looked at yet. -/
structure DelAt (t : Int) (hs : List Hd) (rest : List Value) (G i j : Nat) (w0 w : World) : Prop where
  blk : ∃ mid, mid.length = (j - i) * 2 ∧ Blk w G 69 (hcells ((hs.take j).filter (fun h => decide (h.p.1 < t))) ++ mid ++ hcells (hs.drop j) ++ rest)
  many : i = ((hs.take j).filter (fun h => decide (h.p.1 < t))).length
  lt : i < j
  keeps : Keeps (· = G) w0 w
set_option maxRecDepth 100000 in
set_option maxHeartbeats 4000000 in
theorem deletef_any (G n k : Nat) (t : Int) (hs : List Hd) (rest : List Value) (w : World) (hl : hs.length = n) (hn : n < 1099511627776) (hrest : rest.length = 2) (hk : Blk w G 69 (hcells hs ++ rest)) (hkk : Blk w k 52 [.int .u16 t]) :
    Calls Try.prog 72 #[.slice (some ⟨G, 0, none⟩) n (n + 1), .func (.func 73) #[] #[.pointer (some ⟨k, 0, none⟩)]] w fun e w' => ∃ m rest', e = .returned (.slice (some ⟨G, 0, none⟩) m (n + 1)) ∧ m = (hs.filter (fun h => decide (h.p.1 < t))).length ∧ rest'.length = (n + 1 - m) * 2 ∧ Blk w' G 69 (hcells (hs.filter (fun h => decide (h.p.1 < t))) ++ rest') ∧ Keeps (· = G) w w' := by
  have hne : k ≠ G := fun e => by
    subst e
    unfold Blk at hk hkk
    exact absurd (ty_one hkk hk) (by decide)
  have hidx := idxp_any 73 eg_belowc (.pointer (some ⟨k, 0, none⟩)) (fun u => decide (t ≤ u)) (some ⟨G, 0, none⟩) n (n + 1) (hs.map (·.p.1)) w (tyRow_blk hk hl hn)
    (fun W u B m c hW => belowc_any u t B m c k W (Nat.lt_of_lt_of_le hkk.lt hW.size) ((hW.cell (p := ⟨k, 0, none⟩) hkk.lt).trans (hkk.cell 0)))
  have HK := Lib.hid hk
  have HKK := Lib.hid hkk
  have HIDX := Lib.hid hidx
  have HL := Lib.hid hl
  have HREST := Lib.hid hrest
  have HNE := Lib.hid hne
  clear hk hkk hidx hl hrest hne
  go_enter Try.func72, Try.ntmps72
  go_wp2_with fail
  refine HIDX.out.mono ?_; rintro e w1 ⟨r, rfl, hr, hB1⟩
  rcases hr with ⟨rfl, hall⟩ | ⟨i0, rfl, hi0, hpre, u0, hu0, hut⟩
  · have hf : hs.filter (fun h => decide (h.p.1 < t)) = hs := by
      rw [List.filter_eq_self]
      intro x hx
      have := hall x.p.1 (List.mem_map_of_mem hx)
      simp at this ⊢; omega
    have HF := Lib.hid hf
    have HB1 := Lib.hid hB1
    clear hall hf hB1
    go_wp2_with fail
    go_ret
    refine ⟨n, rest, rfl, by rw [HF.out, HL.out], by rw [HREST.out]; omega, by rw [HF.out]; exact HK.out.below HB1.out HK.out.lt, Keeps.of_below HB1.out⟩
  · rw [List.length_map, HL.out] at hi0
    have htk : (hs.take i0).filter (fun h => decide (h.p.1 < t)) = hs.take i0 := by
      rw [List.filter_eq_self]
      intro x hx
      obtain ⟨j, hj⟩ := List.mem_iff_getElem?.1 hx
      have hji : j < i0 := by have := (List.getElem?_eq_some_iff.1 hj).1; simp at this; omega
      rw [List.getElem?_take, if_pos hji] at hj
      have := hpre j x.p.1 hji (by rw [List.getElem?_map, hj]; rfl)
      simp at this ⊢; omega
    obtain ⟨x0, hx0⟩ : ∃ x, hs[i0]? = some x := ⟨_, List.getElem?_eq_getElem (by rw [HL.out]; exact hi0)⟩
    have hx0t : ¬ x0.p.1 < t := by
      rw [List.getElem?_map, hx0] at hu0
      simp at hu0
      subst hu0
      simp at hut; omega
    have htk2 : (hs.take (i0 + 1)).filter (fun h => decide (h.p.1 < t)) = hs.take i0 := by
      have := (List.getElem?_eq_some_iff.1 hx0)
      rw [List.take_succ_eq_append_getElem this.1, this.2, List.filter_append, htk]
      simp [hx0t]
    have hst : DelAt t hs rest G i0 (i0 + 1) w w1 := by
      refine ⟨⟨hcell x0, by rw [show i0 + 1 - i0 = 1 by omega]; rfl, ?_⟩, ?_, Nat.lt_succ_self _, Keeps.of_below hB1⟩
      · rw [htk2]
        have e : hcells (hs.take i0) ++ hcell x0 ++ hcells (hs.drop (i0 + 1)) ++ rest = hcells hs ++ rest := by
          conv => rhs; rw [← List.take_append_drop i0 hs]
          have := (List.getElem?_eq_some_iff.1 hx0)
          rw [List.drop_eq_getElem_cons this.1, this.2, hcells_append, hcells_cons]
          simp
        rw [e]
        exact HK.out.below hB1 HK.out.lt
      · rw [htk2, List.length_take, HL.out]; omega
    have HST := Lib.hid hst
    have i1 : ((i0 : Int) == -1) = false := beq_eq_false_iff_ne.2 (by omega)
    have hadd : IntKind.i64.wrap ((i0 : Int) + 1) = (i0 : Int) + 1 := IntWalk.i64_in _ (by omega)
    clear hB1 hpre hu0 hut htk hx0 hx0t htk2 hst HIDX
    go_wp2_with fail
    go_loopw [5, 6] (fun a b wr => ∃ i j : Nat, j ≤ n ∧ a = .int .i64 i ∧ b = .int .i64 j ∧ DelAt t hs rest G i j w wr) (fun _ b _ => n - (intOf b).toNat)
    case atStart => exact ⟨i0, i0 + 1, by omega, rfl, by go_num, HST.out⟩
    case round =>
      obtain ⟨i, j, hj, rfl, rfl, hD⟩ := hrel
      obtain ⟨mid, hml, hblk⟩ := hD.blk
      have hij := hD.lt
      have hmany := hD.many
      have hcl : (hcells ((hs.take j).filter (fun h => decide (h.p.1 < t)))).length = i * 2 := by rw [hcells_length, ← hmany]
      have hdl : (hcells (hs.drop j)).length = (n - j) * 2 := by rw [hcells_length, List.length_drop, HL.out]
      have a0 : (0 : Int) ≤ (i : Int) := by omega
      have a1 : (i : Int) < (n : Int) := by omega
      have b0 : (0 : Int) ≤ (j : Int) := by omega
      have iadd : IntKind.i64.wrap ((i : Int) + 1) = (i : Int) + 1 := IntWalk.i64_in _ (by omega)
      have jadd : IntKind.i64.wrap ((j : Int) + 1) = (j : Int) + 1 := IntWalk.i64_in _ (by omega)
      by_cases hlt : j < n
      · obtain ⟨x, hx⟩ : ∃ x, hs[j]? = some x := ⟨_, List.getElem?_eq_getElem (by rw [HL.out]; exact hlt)⟩
        have hgx := List.getElem?_eq_some_iff.1 hx
        have hdj : hs.drop j = x :: hs.drop (j + 1) := by rw [List.drop_eq_getElem_cons hgx.1, hgx.2]
        have htj : hs.take (j + 1) = hs.take j ++ [x] := by rw [List.take_succ_eq_append_getElem hgx.1, hgx.2]
        have hb1 : (j : Int) < (n : Int) := by omega
        have hpl : (hcells ((hs.take j).filter (fun h => decide (h.p.1 < t))) ++ mid).length = j * 2 := by rw [List.length_append, hcl, hml]; omega
        have hc0 : wr.cell? ⟨G, j * 2, none⟩ = some (.int .u16 x.p.1) := by
          rw [hblk.cell, List.append_assoc, List.getElem?_append_right (by rw [hpl]; exact Nat.le_refl _), hpl, Nat.sub_self, hdj]; rfl
        have hc1 : wr.cell? ⟨G, j * 2 + 1, none⟩ = some (.slice x.B x.p.2.length x.c) := by
          rw [hblk.cell, List.append_assoc, List.getElem?_append_right (by rw [hpl]; omega), hpl, show j * 2 + 1 - j * 2 = 1 by omega, hdj]; rfl
        have hcall : ∀ W, Below wr.heap.size wr W → Calls Try.prog 73 #[.agg #[.int .u16 x.p.1, .slice x.B x.p.2.length x.c], .pointer (some ⟨k, 0, none⟩)] W fun e w' => e = .returned (.bool (decide (t ≤ x.p.1))) ∧ Below W.heap.size W w' := fun W hW => by
          have hkr : Blk wr k 52 [.int .u16 t] := HKK.out.keep hD.keeps HNE.out
          exact belowc_any x.p.1 t x.B x.p.2.length x.c k W (Nat.lt_of_lt_of_le hkr.lt hW.size) ((hW.cell (p := ⟨k, 0, none⟩) hkr.lt).trans (hkr.cell 0))
        obtain ⟨u, hu⟩ : ∃ u, x.p.1 = u := ⟨_, rfl⟩
        obtain ⟨V, hV⟩ : ∃ V, x.p.2.length = V := ⟨_, rfl⟩
        obtain ⟨xB, hxB⟩ : ∃ y, x.B = y := ⟨_, rfl⟩
        obtain ⟨xc, hxc⟩ : ∃ y, x.c = y := ⟨_, rfl⟩
        have hcx : hcell x = [.int .u16 u, .slice xB V xc] := by rw [hcell, hu, hV, hxB, hxc]
        rw [hu] at hc0
        rw [hV, hxB, hxc] at hc1
        rw [hu, hV, hxB, hxc] at hcall
        have HU := Lib.hid hu
        have HCX := Lib.hid hcx
        have HD := Lib.hid hD
        have HBLK := Lib.hid hblk
        have HML := Lib.hid hml
        have HCL := Lib.hid hcl
        have HDJ := Lib.hid hdj
        have HTJ := Lib.hid htj
        have HCALL := Lib.hid hcall
        have HBN := Lib.hid (new_belowB wr (.cells #[.int .u16 u, .slice xB V xc] 69))
        have HPL := Lib.hid hpl
        have HMANY := Lib.hid hmany
        clear hu hV hxB hxc hcx hD hblk hml hcl hdj htj hcall hdl hgx hx hpl hmany hadd
        by_cases hut : t ≤ u
        · have hdt : decide (t ≤ u) = true := decide_eq_true hut
          rw [hdt] at HCALL
          clear hdt
          go_wp2_with fail
          refine (HCALL.out _ HBN.out).mono ?_; rintro e w2 ⟨rfl, hB2⟩
          have HB2 : Hid (Below wr.heap.size wr w2) := Lib.hid (HBN.out.trans (hB2.mono HBN.out.size))
          clear hB2
          go_wp2_with fail
          go_roundw
          case rel =>
            refine ⟨i, j + 1, by omega, rfl, by go_num, ⟨⟨mid ++ hcell x, ?_, ?_⟩, ?_, by omega, HD.out.keeps.trans (Keeps.of_below HB2.out)⟩⟩
            · rw [List.length_append, HML.out, show (hcell x).length = 2 from rfl]; omega
            · have := HBLK.out.below HB2.out HBLK.out.lt
              rw [HDJ.out, hcells_cons] at this
              rw [HTJ.out, List.filter_append, List.filter_cons_of_neg (by rw [HU.out]; simp; omega), List.filter_nil, List.append_nil]
              simpa only [List.append_assoc] using this
            · rw [HTJ.out, List.filter_append, List.filter_cons_of_neg (by rw [HU.out]; simp; omega), List.filter_nil, List.append_nil]; exact HMANY.out
          case measure => simp [intOf]; omega
        · have hdt : decide (t ≤ u) = false := decide_eq_false hut
          rw [hdt] at HCALL
          clear hdt
          go_wp2_with fail
          refine (HCALL.out _ HBN.out).mono ?_; rintro e w2 ⟨rfl, hB2⟩
          have hBT : Below wr.heap.size wr w2 := HBN.out.trans (hB2.mono HBN.out.size)
          have hblk2 := HBLK.out.below hBT HBLK.out.lt
          have q0 : w2.cell? ⟨wr.heap.size, 0, none⟩ = some (.int .u16 u) := (hB2.cell (p := ⟨wr.heap.size, 0, none⟩) (by simp)).trans (by rw [World.cell?_alloc_mark]; rfl)
          have q1 : w2.cell? ⟨wr.heap.size, 1, none⟩ = some (.slice xB V xc) := (hB2.cell (p := ⟨wr.heap.size, 1, none⟩) (by simp)).trans (by rw [World.cell?_alloc_mark]; rfl)
          have hth : w2.there G (i * 2) 2 := hblk2.there _ _ (by
            have h1 := HPL.out
            simp only [List.length_append] at h1 ⊢
            omega)
          have HTH := Lib.hid hth
          have HBT := Lib.hid hBT
          have HBLK2 := Lib.hid hblk2
          have HSZ := Lib.hid size_param
          clear hB2 hBT hblk2 hth
          go_wp2_with (refine wpList_store_mid rfl 69 _ _ rfl G (i * 2) #[.int .u16 u, .slice xB V xc] rfl rfl HTH.out HSZ.out (by kernel_rfl) ?_)
          go_roundw
          case rel =>
            have hmid : (hcell x).length ≤ mid.length := by rw [HML.out, show (hcell x).length = 2 from rfl]; omega
            refine ⟨i + 1, j + 1, by omega, by go_num, by go_num, ⟨⟨mid.drop 2 ++ hcell x, ?_, ?_⟩, ?_, by omega, (HD.out.keeps.trans (Keeps.of_below HBT.out)).trans (Keeps.setCells _ _ _)⟩⟩
            · rw [List.length_append, List.length_drop, HML.out, show (hcell x).length = 2 from rfl]; omega
            · have h1 := Blk.setCells [.int .u16 u, .slice xB V xc] (i * 2) w2 _ HBLK2.out (by
                have h1 := HPL.out
                simp only [List.length_append, List.length_cons, List.length_nil] at h1 ⊢
                omega)
              rw [← HCX.out, List.append_assoc (_ ++ mid), splice_mid _ _ _ _ _ HCL.out hmid, show (hcell x).length = 2 from rfl, HDJ.out, hcells_cons] at h1
              rw [HTJ.out, List.filter_append, List.filter_cons_of_pos (by rw [HU.out]; simp; omega), List.filter_nil, hcells_append]
              have e : hcells [x] = hcell x := by simp [hcells]
              rw [e, ← HCX.out]
              simpa only [List.append_assoc] using h1
            · rw [HTJ.out, List.filter_append, List.filter_cons_of_pos (by rw [HU.out]; simp; omega), List.filter_nil, List.length_append, ← HMANY.out]; rfl
          case measure => simp [intOf]; omega
      · obtain rfl : j = n := by omega
        have hall : (hs.take j).filter (fun h => decide (h.p.1 < t)) = hs.filter (fun h => decide (h.p.1 < t)) := by rw [List.take_of_length_le (by rw [HL.out]; exact Nat.le_refl _)]
        have hdn : hs.drop j = [] := List.drop_eq_nil_of_le (by rw [HL.out]; exact Nat.le_refl _)
        obtain ⟨Z, hZ, hclr⟩ := run_clear_ps G (i * 2) (j - i) (j + 1 - i) (by omega)
        have hs1 : ∀ W : World, (Instr.slice 43 (.slice (some ⟨G, 0, none⟩) j (j + 1)) (some (.int .i64 (i : Int))) none none).run Try.prog W = .ok (.slice (some ⟨G, i * 2, none⟩) (j - i) (j + 1 - i)) W := fun W => by
          have := slice_lowP W G 0 j (j + 1) i (by omega) (by omega)
          rwa [Nat.zero_add] at this
        have hs2 := fun W => slice_highP W (some ⟨G, 0, none⟩) j (j + 1) i (by omega)
        have hclr2 : ∀ ty, (Builtin.clear_ #[43] ty #[.slice (some ⟨G, i * 2, none⟩) (j - i) (j + 1 - i)]).run Try.prog wr = .ok (.tuple #[]) (wr.setCells G (i * 2) Z) := fun ty => hclr wr ty (hblk.there _ _ (by
          simp only [List.length_append, hcl, hml]; omega))
        rw [hall] at hcl hmany hblk
        rw [hdn, hcells_nil, List.append_nil] at hblk
        have hfin := Blk.setCells Z (i * 2) wr _ hblk (by
          simp only [List.length_append, hcl, hml, hZ]; omega)
        rw [splice_mid _ _ _ _ _ hcl (by rw [hZ, hml]; exact Nat.le_refl _), hZ, List.drop_of_length_le (by rw [hml]; exact Nat.le_refl _), List.append_nil] at hfin
        have hkf := hD.keeps.trans (Keeps.setCells Z (i * 2) wr)
        have HFIN := Lib.hid hfin
        have HKF := Lib.hid hkf
        have HMANY := Lib.hid hmany
        have HZ := Lib.hid hZ
        have a2 : (i : Int) ≤ (j : Int) := by omega
        clear hall hdn hZ hclr hcl hmany hblk hfin hkf hD hml hdl hadd
        go_wp2_with (simp only [hclr2])
        go_ret
        refine ⟨i, Z ++ rest, rfl, HMANY.out, ?_, ?_, HKF.out⟩
        · rw [List.length_append, HZ.out, HREST.out]; omega
        · have := HFIN.out
          simpa only [List.append_assoc] using this
end Go.Proofs.Ytadpgodmkodgdaa
