/- The walk over slices.Insert at pieces: one piece more, where there is room for it; With, Find, Below of pieces: plain laws on lists. -/
import Derived.Test.YtadpgodmkodgdaaXRGuidesRoom27
import Derived.Lib.Overlaps
import Derived.Laws.Externs
import Derived.Test.YtadpgodmkodgdaaXRGuidesRoom17
namespace Go.Proofs.Ytadpgodmkodgdaa
open Go.RowKit
set_option linter.unusedSimpArgs false
set_option linter.unusedVariables false

theorem add_lit (g o j : Nat) : (⟨g, o, none⟩ : Addr).add j = ⟨g, o + j, none⟩ := by unfold Addr.add; split <;> simp_all
/-- s[m:] of pieces that lie in a block. -/
theorem slice_lowP (W : World) (g o len c m : Nat) (h : m ≤ len) (hc : m < c) : (Instr.slice 43 (.slice (some ⟨g, o, none⟩) len c) (some (.int .i64 (m : Int))) none none).run Try.prog W = .ok (.slice (some ⟨g, o + m * 2, none⟩) (len - m) (c - m)) W := by
  rw [run_slice_l W 43 _ len c (by kernel_rfl) .i64 (m : Int) (by omega) (by omega), show (sizeOf (Try.prog.elem 43)).run Try.prog W = .ok 2 W from by kernel_rfl]
  simp only [Result.andThen, sliced, Int.toNat_natCast]
  rw [if_neg (by omega)]
  simp only [Option.map_some, add_lit]
/-- s[:m]. -/
theorem slice_highP (W : World) (A : Option Addr) (len c m : Nat) (h : m ≤ c) : (Instr.slice 43 (.slice A len c) none (some (.int .i64 (m : Int))) none).run Try.prog W = .ok (.slice A m c) W := by
  rw [run_slice_h W 43 A len c (by kernel_rfl) .i64 (m : Int) (by omega) (by omega), show (sizeOf (Try.prog.elem 43)).run Try.prog W = .ok 2 W from by kernel_rfl]
  simp only [Result.andThen, sliced]
  have h0 : ∀ ad : Addr, ad.add 0 = ad := fun ad => by cases ad; unfold Addr.add; split <;> simp_all
  cases A with
  | none => simp
  | some ad => simp [h0]
theorem insert_cells (hs : List Hd) (x : Hd) (rest : List Value) (i : Nat) (hi : i ≤ hs.length) (hr : rest.length = 2) :
    splice (splice (hcells hs ++ rest) ((i + 1) * 2) (hcells (hs.drop i))) (i * 2) (hcell x) = hcells (hs.take i ++ x :: hs.drop i) := by
  have hl := hcells_length hs
  have hd : (hcells (hs.drop i)).length = (hs.length - i) * 2 := by rw [hcells_length, List.length_drop]
  have hx : (hcell x).length = 2 := rfl
  rw [hcells_append, hcells_cons, hcells_take]
  generalize hcells (hs.drop i) = D at hd ⊢
  have e1 : splice (hcells hs ++ rest) ((i + 1) * 2) D = (hcells hs ++ rest).take ((i + 1) * 2) ++ D := by
    rw [splice, List.drop_of_length_le (by rw [List.length_append]; omega), List.append_nil]
  rw [e1, splice, hx]
  have ht : ((hcells hs ++ rest).take ((i + 1) * 2)).length = (i + 1) * 2 := by rw [List.length_take, List.length_append]; omega
  rw [List.take_append_of_le_length (by omega), List.take_take, Nat.min_eq_left (by omega), List.take_append_of_le_length (by omega), List.drop_append_of_le_length (by omega), List.drop_of_length_le (by omega), List.nil_append]

set_option maxRecDepth 100000 in
set_option maxHeartbeats 2000000 in
theorem insert_any (G n i b : Nat) (hs : List Hd) (rest : List Value) (x : Hd) (w : World) (hi : i ≤ n) (hn : n < 1099511627776) (hl : hs.length = n) (hr : rest.length = 2) (hk : Blk w G 69 (hcells hs ++ rest)) (hb : Blk w b 69 (hcell x)) (hne : b ≠ G) :
    Calls Try.prog 63 #[.slice (some ⟨G, 0, none⟩) n (n + 1), .int .i64 i, .slice (some ⟨b, 0, none⟩) 1 1] w fun e w' => e = .returned (.slice (some ⟨G, 0, none⟩) (n + 1) (n + 1)) ∧ Blk w' G 69 (hcells (hs.take i ++ x :: hs.drop i)) ∧ Keeps (· = G) w w' := by
  have hcl : (hcells hs ++ rest).length = n * 2 + 2 := by rw [List.length_append, hcells_length, hl, hr]
  have hs1 : ∀ W : World, (Instr.slice 43 (.slice (some ⟨G, 0, none⟩) n (n + 1)) (some (.int .i64 (i : Int))) none none).run Try.prog W = .ok (.slice (some ⟨G, i * 2, none⟩) (n - i) (n + 1 - i)) W := fun W => by
    have := slice_lowP W G 0 n (n + 1) i hi (by omega)
    rwa [Nat.zero_add] at this
  have i0 : (0 : Int) ≤ (i : Int) := by omega
  have i1 : (i : Int) ≤ (n : Int) := by omega
  rcases Nat.lt_or_ge i n with hlt | hge
  · have hs2 : ∀ W : World, (Instr.slice 43 (.slice (some ⟨G, 0, none⟩) n (n + 1)) none (some (.int .i64 ((n : Int) + 1))) none).run Try.prog W = .ok (.slice (some ⟨G, 0, none⟩) (n + 1) (n + 1)) W := fun W => by
      have := slice_highP W (some ⟨G, 0, none⟩) n (n + 1) (n + 1) (Nat.le_refl _)
      rwa [show ((n + 1 : Nat) : Int) = (n : Int) + 1 by omega] at this
    have hs3 : ∀ W : World, (Instr.slice 43 (.slice (some ⟨G, 0, none⟩) (n + 1) (n + 1)) (some (.int .i64 ((i : Int) + 1))) none none).run Try.prog W = .ok (.slice (some ⟨G, (i + 1) * 2, none⟩) (n - i) (n - i)) W := fun W => by
      have := slice_lowP W G 0 (n + 1) (n + 1) (i + 1) (by omega) (by omega)
      rwa [Nat.zero_add, show ((i + 1 : Nat) : Int) = (i : Int) + 1 by omega, show n + 1 - (i + 1) = n - i by omega] at this
    have hs4 : ∀ W : World, (Instr.slice 43 (.slice (some ⟨G, 0, none⟩) (n + 1) (n + 1)) (some (.int .i64 (i : Int))) none none).run Try.prog W = .ok (.slice (some ⟨G, i * 2, none⟩) (n + 1 - i) (n + 1 - i)) W := fun W => by
      have := slice_lowP W G 0 (n + 1) (n + 1) i (by omega) (by omega)
      rwa [Nat.zero_add] at this
    have hov : (callFunc 70 #[.slice (some ⟨b, 0, none⟩) 1 1, .slice (some ⟨G, (i + 1) * 2, none⟩) (n - i) (n - i)]).run Try.prog w = .ok (.value (.bool false)) w := by
      rw [run_callFunc_extern Try.func70 (by kernel_rfl) (by kernel_rfl) (by kernel_rfl) (e := Extern.SlicesOverlaps.overlaps #[43, 43] #[4]) (by kernel_rfl),
        Lib.run_overlaps_apart w 43 4 69 Try.underlying43 2 (fun w => by kernel_rfl) ⟨b, 0, none⟩ ⟨G, (i + 1) * 2, none⟩ 1 1 (n - i) (n - i) hne 69 69 2 (n * 2 + 2) (by simp [World.shape?, hb, hcell]; unfold Blk at hb; rw [hb]; rfl) (by unfold Blk at hk; simp [World.shape?, hk, hcl]) (by omega) (hb.free 0) (hb.free 2)]
      rfl
    have hz : ¬ (i : Int) = (n : Int) := by omega
    have hw1 : IntKind.i64.wrap ((n : Int) + 1) = (n : Int) + 1 := IntWalk.i64_in _ (by omega)
    have hw2 : IntKind.i64.wrap ((i : Int) + 1) = (i : Int) + 1 := IntWalk.i64_in _ (by omega)
    have hkd := hk.drew
    have hsrc1 : ∀ j v, (hcells (hs.drop i))[j]? = some v → w.drew.cell? ((⟨G, i * 2, none⟩ : Addr).add j) = some v := fun j v hj => by
      rw [add_lit, hkd.cell]
      rw [hcells_drop, List.getElem?_drop] at hj
      rw [List.getElem?_append_left (by have := (List.getElem?_eq_some_iff.1 hj).1; exact this)]
      exact hj
    have hd : (hcells (hs.drop i)).length = (n - i) * 2 := by rw [hcells_length, List.length_drop, hl]
    have hfit : (i + 1) * 2 + (hcells (hs.drop i)).length ≤ (hcells hs ++ rest).length := by rw [hd, hcl]; omega
    have hend := insert_cells hs x rest i (by omega) hr
    have HKD := Lib.hid hkd
    have HBD := Lib.hid hb.drew
    have HS1 := Lib.hid hsrc1
    have HD := Lib.hid hd
    have HFIT := Lib.hid hfit
    have HEND := Lib.hid hend
    have HCL := Lib.hid hcl
    have HNE := Lib.hid hne
    have hone : ∀ u ∈ hcell x, u.oneCell' = true := by
      have := @hcells_one [x]
      simpa [hcells] using this
    have HONE := Lib.hid hone
    have hb4 : ¬ ((n : Int) + 1 < (n : Int) + 1) := by omega
    clear hk hb hkd hsrc1 hd hfit hend hcl hne hone hl hr
    go_enter Try.func63, Try.ntmps63
    go_wp2_with (simp only [hov])
    go_region_law (refine step_copyN rfl _ _ 43 43 rfl 69 2 Try.underlying43 size_param ⟨G, i * 2, none⟩ (n - i) (n - i) (n - i) (n + 1 - i) (n + 1 - i) G ((i + 1) * 2) (by simp [Act.eval, Act.put]) (by simp [Act.eval, Act.put]) (hcells hs ++ rest) 69 HKD.out (hcells (hs.drop i)) (by simp only [Nat.min_def]; split <;> omega) HD.out HS1.out HFIT.out hcells_one ?_; intro w3 hb3 hk3; have HK3 := Lib.hid hk3; clear hk3)
    have hbb : Blk w3 b 69 (hcell x) := HBD.out.keep HK3.out HNE.out
    have hsrc2 : ∀ j v, (hcell x)[j]? = some v → w3.cell? ((⟨b, 0, none⟩ : Addr).add j) = some v := fun j v hj => by
      rw [add_lit, Nat.zero_add, hbb.cell]; exact hj
    have hfit2 : i * 2 + (hcell x).length ≤ (splice (hcells hs ++ rest) ((i + 1) * 2) (hcells (hs.drop i))).length := by
      rw [length_splice _ _ _ HFIT.out, HCL.out, show (hcell x).length = 2 from rfl]; omega
    have HS2 := Lib.hid hsrc2
    have HFIT2 := Lib.hid hfit2
    clear hbb hsrc2 hfit2
    go_wp2_with (with_reducible refine wpList_copyN rfl _ _ 43 43 rfl 69 2 Try.underlying43 size_param ⟨b, 0, none⟩ 1 (n + 1 - i) (n + 1 - i) 1 1 G (i * 2) rfl rfl _ 69 hb3.out (hcell x) (by simp only [Nat.min_def]; split <;> omega) rfl HS2.out HFIT2.out HONE.out ?_; intro w4 hb4 hk4)
    have hb5 := hb4.out
    rw [HEND.out] at hb5
    have HB5 := Lib.hid hb5
    have HK5 : Hid (Keeps (· = G) w w4) := Lib.hid ((((Keeps.refl _ w).drew).trans HK3.out).trans hk4)
    clear hb5 hk4 hb4
    go_wp2_with fail
    go_ret
    exact ⟨rfl, HB5.out, HK5.out⟩
  · obtain rfl : i = n := by omega
    have hend : hcells (hs.take i ++ x :: hs.drop i) = hcells (hs ++ [x]) := by rw [List.take_of_length_le (by omega), List.drop_of_length_le (by omega)]
    have HEND := Lib.hid hend
    have hone : ∀ u ∈ hcell x, u.oneCell' = true := by
      have := @hcells_one [x]
      simpa [hcells] using this
    have HONE := Lib.hid hone
    have HK := Lib.hid hk
    have HB := Lib.hid hb
    have hfit : i * 2 + 2 ≤ (hcells hs ++ rest).length := by rw [hcl]; exact Nat.le_refl _
    have HFIT := Lib.hid hfit
    have HL := Lib.hid hl
    have HR := Lib.hid hr
    clear hk hb hcl hend hone hfit hl hr
    go_enter Try.func63, Try.ntmps63
    go_wp2_with (at_builtin; refine append_room_el rfl _ _ 43 69 2 rfl Try.underlying43 size_param G i (i + 1) (hcells hs ++ rest) (hcell x) b rfl rfl rfl HONE.out HK.out HB.out (Nat.le_refl _) HFIT.out ?_; intro w3 hb3 hk3; have HK3 := Lib.hid hk3; clear hk3)
    have hb4 := hb3.out
    rw [splice_end (hcells hs) rest _ (i * 2) (by rw [hcells_length, HL.out]), List.drop_of_length_le (by rw [HR.out]; exact Nat.le_refl _), List.append_nil] at hb4
    have HB4 : Hid (Blk w3 G 69 (hcells (hs ++ [x]))) := Lib.hid (by rw [hcells_append]; simpa [hcells] using hb4)
    clear hb4
    go_ret
    exact ⟨rfl, by rw [HEND.out]; exact HB4.out, HK3.out⟩
end Go.Proofs.Ytadpgodmkodgdaa

namespace Go.Proofs.Ytadpgodmkodgdaa
set_option linter.unusedSimpArgs false
set_option linter.unusedVariables false

/-- The body of a type. -/
def paFind (ps : List Piece) (t : Int) : Option (List Int) := (ps.find? (fun p => p.1 == t)).map (·.2)
/-- Those of lesser types. -/
def paBelow (ps : List Piece) (t : Int) : List Piece := ps.filter (fun p => decide (p.1 < t))
def paAbove (ps : List Piece) (t : Int) : List Piece := ps.filter (fun p => decide (t < p.1))
/-- What With answers. -/
def withE (ps : List Piece) (t : Int) : Int :=
  if rises 0 ps = false then 1 else if t = 0 then 1 else if (paFind ps t).isSome then 8 else if 16 ≤ ps.length then 3 else 0
def withL (ps : List Piece) (p : Piece) : List Piece := paBelow ps p.1 ++ p :: paAbove ps p.1

theorem paFind_none {ps : List Piece} {t : Int} : paFind ps t = none ↔ ∀ p ∈ ps, p.1 ≠ t := by
  simp [paFind]
theorem paFind_some {ps : List Piece} {t : Int} : (paFind ps t).isSome = true ↔ ∃ p ∈ ps, p.1 = t := by
  simp [paFind]
theorem rises_lt : ∀ {ps : List Piece} {last : Int}, rises last ps = true → ∀ p ∈ ps, last < p.1
  | [], _, _, p, hp => by simp at hp
  | q :: ps, last, h, p, hp => by
    simp only [rises, Bool.and_eq_true, decide_eq_true_eq] at h
    rcases List.mem_cons.1 hp with rfl | hp
    · exact h.1
    · exact Int.lt_trans h.1 (rises_lt h.2 p hp)
theorem rises_at : ∀ {ps : List Piece} {last : Int}, rises last ps = true → ∀ (i j : Nat) (p q : Piece), i < j → ps[i]? = some p → ps[j]? = some q → p.1 < q.1
  | [], _, _, i, j, p, q, _, h, _ => by simp at h
  | r :: ps, last, h, 0, j + 1, p, q, _, h1, h2 => by
    simp only [rises, Bool.and_eq_true, decide_eq_true_eq] at h
    simp only [List.getElem?_cons_zero, Option.some.injEq] at h1
    subst h1
    exact rises_lt h.2 q (List.mem_of_getElem? (by simpa using h2))
  | r :: ps, last, h, i + 1, j + 1, p, q, hij, h1, h2 => by
    simp only [rises, Bool.and_eq_true, decide_eq_true_eq] at h
    exact rises_at h.2 i j p q (by omega) (by simpa using h1) (by simpa using h2)
/-- A place with lesser types ahead of it, and no lesser ones behind. -/
theorem below_take {ps : List Piece} {t : Int} {i : Nat} (h1 : ∀ k p, k < i → ps[k]? = some p → p.1 < t) (h2 : ∀ k p, i ≤ k → ps[k]? = some p → t ≤ p.1) : paBelow ps t = ps.take i := by
  conv => lhs; rw [← List.take_append_drop i ps]
  rw [paBelow, List.filter_append, List.filter_eq_self.2, List.filter_eq_nil_iff.2, List.append_nil]
  · intro p hp
    obtain ⟨k, hk⟩ := List.mem_iff_getElem?.1 hp
    rw [List.getElem?_drop] at hk
    have := h2 _ p (by omega) hk
    simp; omega
  · intro p hp
    obtain ⟨k, hk⟩ := List.mem_iff_getElem?.1 hp
    have hki : k < i := by
      have := (List.getElem?_eq_some_iff.1 hk).1
      simp at this; omega
    rw [List.getElem?_take, if_pos hki] at hk
    simpa using h1 k p hki hk
theorem above_drop {ps : List Piece} {t : Int} {i : Nat} (h1 : ∀ k p, k < i → ps[k]? = some p → p.1 < t) (h2 : ∀ k p, i ≤ k → ps[k]? = some p → t < p.1) : paAbove ps t = ps.drop i := by
  conv => lhs; rw [← List.take_append_drop i ps]
  rw [paAbove, List.filter_append, List.filter_eq_nil_iff.2, List.filter_eq_self.2, List.nil_append]
  · intro p hp
    obtain ⟨k, hk⟩ := List.mem_iff_getElem?.1 hp
    rw [List.getElem?_drop] at hk
    simpa using h2 _ p (by omega) hk
  · intro p hp
    obtain ⟨k, hk⟩ := List.mem_iff_getElem?.1 hp
    have hki : k < i := by
      have := (List.getElem?_eq_some_iff.1 hk).1
      simp at this; omega
    rw [List.getElem?_take, if_pos hki] at hk
    have := h1 k p hki hk
    simp; omega
theorem below_le (ps : List Piece) (t : Int) : (paBelow ps t).length ≤ ps.length := List.length_filter_le _ _
/-- The place of a type among rising ones. -/
theorem place_of : ∀ {ps : List Piece} {last : Int} (t : Int), rises last ps = true → (∀ k p, k < (paBelow ps t).length → ps[k]? = some p → p.1 < t) ∧ (∀ k p, (paBelow ps t).length ≤ k → ps[k]? = some p → t ≤ p.1)
  | [], _, t, _ => ⟨fun k p hk => by simp [paBelow] at hk, fun k p _ h => by simp at h⟩
  | q :: ps, last, t, h => by
    simp only [rises, Bool.and_eq_true, decide_eq_true_eq] at h
    obtain ⟨ih1, ih2⟩ := place_of t h.2
    by_cases hq : q.1 < t
    · have e : paBelow (q :: ps) t = q :: paBelow ps t := by simp [paBelow, hq]
      rw [e, List.length_cons]
      refine ⟨fun k p hk hp => ?_, fun k p hk hp => ?_⟩
      · cases k with
        | zero => simp at hp; subst hp; exact hq
        | succ k => exact ih1 k p (by omega) (by simpa using hp)
      · cases k with
        | zero => omega
        | succ k => exact ih2 k p (by omega) (by simpa using hp)
    · have e : paBelow (q :: ps) t = [] := by
        simp only [paBelow, List.filter_eq_nil_iff, List.mem_cons]
        rintro p (rfl | hp)
        · simpa using hq
        · have := rises_lt h.2 p hp
          simp; omega
      rw [e]
      refine ⟨fun k p hk hp => by simp at hk, fun k p hk hp => ?_⟩
      cases k with
      | zero => simp at hp; subst hp; omega
      | succ k =>
        have := rises_lt h.2 p (List.mem_of_getElem? (by simpa using hp))
        omega
theorem below_eq {ps : List Piece} {last t : Int} (h : rises last ps = true) : paBelow ps t = ps.take (paBelow ps t).length := below_take (place_of t h).1 (place_of t h).2
theorem above_eq {ps : List Piece} {last t : Int} (h : rises last ps = true) (hf : paFind ps t = none) : paAbove ps t = ps.drop (paBelow ps t).length :=
  above_drop (place_of t h).1 (fun k p hk hp => by
    have h1 := (place_of t h).2 k p hk hp
    have h2 := paFind_none.1 hf p (List.mem_of_getElem? hp)
    omega)
theorem withL_eq {ps : List Piece} {last : Int} {p : Piece} (h : rises last ps = true) (hf : paFind ps p.1 = none) : withL ps p = ps.take (paBelow ps p.1).length ++ p :: ps.drop (paBelow ps p.1).length := by
  rw [withL, ← below_eq h, above_eq h hf]
theorem withL_length {ps : List Piece} {last : Int} {p : Piece} (h : rises last ps = true) (hf : paFind ps p.1 = none) : (withL ps p).length = ps.length + 1 := by
  rw [withL_eq h hf]
  have := below_le ps p.1
  simp; omega
theorem rises_with : ∀ {ps : List Piece} {last : Int} {p : Piece}, rises last ps = true → last < p.1 → paFind ps p.1 = none → rises last (withL ps p) = true
  | [], last, p, _, hl, _ => by simp [withL, paBelow, paAbove, rises, hl]
  | q :: ps, last, p, h, hl, hf => by
    have h' := h
    simp only [rises, Bool.and_eq_true, decide_eq_true_eq] at h
    have hne : q.1 ≠ p.1 := paFind_none.1 hf q (by simp)
    have hf' : paFind ps p.1 = none := paFind_none.2 (fun r hr => paFind_none.1 hf r (by simp [hr]))
    by_cases hq : q.1 < p.1
    · have e : withL (q :: ps) p = q :: withL ps p := by simp [withL, paBelow, paAbove, hq, show ¬ p.1 < q.1 by omega]
      rw [e, rises, decide_eq_true h.1, Bool.true_and]
      exact rises_with h.2 hq hf'
    · have e1 : paBelow (q :: ps) p.1 = [] := by
        simp only [paBelow, List.filter_eq_nil_iff, List.mem_cons]
        rintro r (rfl | hr)
        · simpa using hq
        · have := rises_lt h.2 r hr
          simp; omega
      have e2 := above_eq h' hf
      rw [e1] at e2
      rw [withL, e1, e2]
      simp only [List.length_nil, List.drop_zero, List.nil_append, rises, Bool.and_eq_true, decide_eq_true_eq]
      exact ⟨hl, by omega, h.2⟩
theorem find_with {ps : List Piece} {p : Piece} (hf : paFind ps p.1 = none) : paFind (withL ps p) p.1 = some p.2 := by
  have h0 : (paBelow ps p.1).find? (fun q => q.1 == p.1) = none := by
    rw [List.find?_eq_none]
    intro q hq
    have := (List.mem_filter.1 hq).2
    simp at this ⊢; omega
  simp [paFind, withL, List.find?_append, h0]
theorem below_with {ps : List Piece} {p : Piece} : paBelow (withL ps p) p.1 = paBelow ps p.1 := by
  have h1 : (paAbove ps p.1).filter (fun q => decide (q.1 < p.1)) = [] := by
    rw [List.filter_eq_nil_iff]
    intro q hq
    have := (List.mem_filter.1 hq).2
    simp at this ⊢; omega
  unfold paBelow withL
  rw [List.filter_append, List.filter_cons_of_neg (by simp)]
  unfold paBelow
  rw [h1, List.append_nil, List.filter_filter]
  simp
theorem with_head (ps : List Piece) (p : Piece) : (withL ps p).take (paBelow ps p.1).length = paBelow ps p.1 := by simp [withL]
theorem with_mid (ps : List Piece) (p : Piece) : (withL ps p)[(paBelow ps p.1).length]? = some p := by simp [withL]
theorem with_tail {ps : List Piece} {last : Int} {p : Piece} (h : rises last ps = true) (hf : paFind ps p.1 = none) : (withL ps p).drop ((paBelow ps p.1).length + 1) = ps.drop (paBelow ps p.1).length := by
  rw [withL, above_eq h hf, List.drop_append]
  simp
theorem okPiece_below {ps : List Piece} {t : Int} (h : ∀ p ∈ ps, okPiece p) : ∀ p ∈ paBelow ps t, okPiece p := fun p hp => h p (List.mem_filter.1 hp).1
theorem okPiece_with {ps : List Piece} {p : Piece} (h : ∀ q ∈ ps, okPiece q) (hp : okPiece p) : ∀ q ∈ withL ps p, okPiece q := fun q hq => by
  simp only [withL, List.mem_append, List.mem_cons] at hq
  rcases hq with hq | rfl | hq
  · exact h q (List.mem_filter.1 hq).1
  · exact hp
  · exact h q (List.mem_filter.1 hq).1
theorem withE_cases (ps : List Piece) (t : Int) : (withE ps t = 1 ∧ (rises 0 ps = false ∨ t = 0)) ∨ (rises 0 ps = true ∧ t ≠ 0 ∧ (paFind ps t).isSome = true ∧ withE ps t = 8) ∨ (rises 0 ps = true ∧ t ≠ 0 ∧ paFind ps t = none ∧ 16 ≤ ps.length ∧ withE ps t = 3) ∨ (rises 0 ps = true ∧ t ≠ 0 ∧ paFind ps t = none ∧ ps.length < 16 ∧ withE ps t = 0) := by
  unfold withE
  by_cases h1 : rises 0 ps = false
  · simp [h1]
  · by_cases h2 : t = 0
    · simp [h1, h2]
    · cases h3 : paFind ps t with
      | some b => right; left; simp [h1, h2]
      | none =>
        by_cases h4 : 16 ≤ ps.length
        · right; right; left; simp [h1, h2, h4]
        · right; right; right; simp [h1, h2, h4]; omega
end Go.Proofs.Ytadpgodmkodgdaa
