/- A table of guides: the place of a tag, or a free one. -/
import Derived.Test.YtadpgodmkodgdaaXRGuidesRoom39
namespace Go.Proofs.Ytadpgodmkodgdaa
open Go.RowKit
set_option linter.unusedSimpArgs false
set_option linter.unusedVariables false

/-- What a search tells: the place of one of whom it is true; below 0: of nobody. -/
def IdxRes (a : List Gd) (q : Gd → Bool) (r : Int) : Prop := (∃ (i : Nat) (e : Gd), r = (i : Int) ∧ i < 8 ∧ a[i]? = some e ∧ q e = true) ∨ (r = -1 ∧ ∀ e ∈ a, q e = false)
/-- The table's tags and ticks are such as may be. -/
def TabOk (a : List Gd) : Prop := ∀ e ∈ a, 0 ≤ e.ticks ∧ e.ticks ≤ 256
theorem size_guided : (Try.prog.info? 60).map (·.size) = some 18 := by kernel_rfl
theorem TabAt.row' {w : World} {T : Nat} {a : List Gd} (h : TabAt w T a) {j o : Nat} {e : Gd} (he : a[j]? = some e) (ho : o = j * 18) : w.rangeAt T o (gdC e) := by
  have := h.row he
  rwa [show 18 * j = o by omega] at this
theorem bare_none {e : Gd} {q : Gd → Bool} {a : List Gd} {n : Nat} (hl : a.length = n) (h : ∀ j e, j < n → a[j]? = some e → q e = false) : ∀ e ∈ a, q e = false := fun e he => by
  obtain ⟨j, hj, rfl⟩ := List.getElem_of_mem he
  exact h j _ (by omega) (List.getElem?_eq_getElem hj)

set_option maxRecDepth 100000 in
set_option maxHeartbeats 2000000 in
theorem idxtag_any (T X : Nat) (a : List Gd) (tag : List Int) (w : World) (hT : TabAt w T a) (hok : TabOk a) (hX : w.rangeAt X 0 (tag.map (Value.int .u8))) (hXl : X < w.heap.size) (hg : tag.length = 16) :
    Calls Try.prog 29 #[.slice (some ⟨T, 0, none⟩) 8 8, .func (.func 30) #[] #[.pointer (some ⟨X, 0, none⟩)]] w fun e w' => ∃ r, e = .returned (.int .i64 r) ∧ IdxRes a (isTag tag) r ∧ Below w.heap.size w w' := by
  have hu : Try.prog.underlying 60 = some (.struct _) := Try.underlying60
  have HT := Lib.hid hT
  have HOK := Lib.hid hok
  have HX := Lib.hid hX
  have HU := Lib.hid hu
  clear hT hok hX hu
  go_enter Try.func29, Try.ntmps29
  go_wp2_with fail
  go_loopw [8] (fun i wr => ∃ k : Nat, k ≤ 8 ∧ i = .int .i64 k ∧ (∀ j e, j < k → a[j]? = some e → isTag tag e = false) ∧ Below w.heap.size w wr) (fun i _ => 8 - (intOf i).toNat)
  case atStart => exact ⟨0, Nat.zero_le _, rfl, fun j e hj _ => absurd hj (by omega), Below.refl _ _⟩
  case round =>
    obtain ⟨k, hk, rfl, hpre, hB⟩ := hrel
    by_cases hlt : k < 8
    · have hT' := HT.out.below hB
      obtain ⟨e, he⟩ : ∃ e, a[k]? = some e := ⟨_, List.getElem?_eq_getElem (by rw [HT.out.len]; exact hlt)⟩
      have hem := List.mem_of_getElem? he
      have hlen := HT.out.tags e hem
      have hc := istag_any e tag X wr hlen hg (HOK.out e hem).1 (fun j v hv => (hB.cell (p := ⟨X, 0 + j, none⟩) hXl).trans (HX.out j v hv))
      have hrow : ∀ o, o = k * 18 → wr.rangeAt T o (gdC e) := fun o ho => hT'.row' he ho
      have hsz : (Try.prog.info? 60).map (·.size) = some (gdC e).length := by rw [gdC_length hlen]; exact size_guided
      have HE := Lib.hid he
      obtain ⟨Y, hY⟩ : ∃ Y, gdC e = Y := ⟨_, rfl⟩
      rw [hY] at hc hrow hsz
      obtain ⟨q, hq⟩ : ∃ q, isTag tag e = q := ⟨_, rfl⟩
      rw [hq] at hc
      have HQ := Lib.hid hq
      have HC := Lib.hid hc
      have HROW := Lib.hid hrow
      have HSZ := Lib.hid hsz
      have HPRE := Lib.hid hpre
      have HB := Lib.hid hB
      have i0 : (0 : Int) ≤ (k : Int) := by omega
      have i1 : (k : Int) < 8 := by omega
      clear hT' he hem hlen hc hrow hsz hY hq hpre hB
      cases q
      · go_wp2_with (refine wpList_load_mid rfl 60 _ rfl T _ rfl Y _ (HROW.out _ (by omega)) HU.out rfl HSZ.out ?_)
        refine HC.out.mono ?_; rintro e' w1 ⟨rfl, hB1⟩
        have HB1 := Lib.hid (HB.out.trans (hB1.mono HB.out.size))
        clear hB1
        go_wp2_with fail
        go_roundw
        case rel =>
          refine ⟨k + 1, by omega, by go_num, fun j e' hj hje => ?_, HB1.out⟩
          rcases Nat.lt_or_ge j k with h | h
          · exact HPRE.out j e' h hje
          · obtain rfl : j = k := by omega
            rw [HE.out] at hje
            injection hje with hje
            subst hje
            exact HQ.out
        case measure => simp [intOf]; omega
      · go_wp2_with (refine wpList_load_mid rfl 60 _ rfl T _ rfl Y _ (HROW.out _ (by omega)) HU.out rfl HSZ.out ?_)
        refine HC.out.mono ?_; rintro e' w1 ⟨rfl, hB1⟩
        have HB1 := Lib.hid (HB.out.trans (hB1.mono HB.out.size))
        clear hB1
        go_wp2_with fail
        go_ret
        exact ⟨_, rfl, .inl ⟨k, e, rfl, hlt, HE.out, HQ.out⟩, HB1.out⟩
    · obtain rfl : k = 8 := by omega
      have HPRE := Lib.hid hpre
      have HB := Lib.hid hB
      clear hpre hB
      go_wp2_with fail
      go_ret
      exact ⟨_, rfl, .inr ⟨rfl, bare_none (e := ⟨[], 0, 0⟩) HT.out.len HPRE.out⟩, HB.out⟩

set_option maxRecDepth 100000 in
set_option maxHeartbeats 2000000 in
theorem idxfree_any (T : Nat) (a : List Gd) (w : World) (hT : TabAt w T a) (hok : TabOk a) :
    Calls Try.prog 29 #[.slice (some ⟨T, 0, none⟩) 8 8, .func (.func 31) #[] #[]] w fun e w' => ∃ r, e = .returned (.int .i64 r) ∧ IdxRes a free r ∧ Below w.heap.size w w' := by
  have hu : Try.prog.underlying 60 = some (.struct _) := Try.underlying60
  have HT := Lib.hid hT
  have HOK := Lib.hid hok
  have HU := Lib.hid hu
  clear hT hok hu
  go_enter Try.func29, Try.ntmps29
  go_wp2_with fail
  go_loopw [8] (fun i wr => ∃ k : Nat, k ≤ 8 ∧ i = .int .i64 k ∧ (∀ j e, j < k → a[j]? = some e → free e = false) ∧ Below w.heap.size w wr) (fun i _ => 8 - (intOf i).toNat)
  case atStart => exact ⟨0, Nat.zero_le _, rfl, fun j e hj _ => absurd hj (by omega), Below.refl _ _⟩
  case round =>
    obtain ⟨k, hk, rfl, hpre, hB⟩ := hrel
    by_cases hlt : k < 8
    · have hT' := HT.out.below hB
      obtain ⟨e, he⟩ : ∃ e, a[k]? = some e := ⟨_, List.getElem?_eq_getElem (by rw [HT.out.len]; exact hlt)⟩
      have hem := List.mem_of_getElem? he
      have hlen := HT.out.tags e hem
      have hc := isfree_any e wr hlen (HOK.out e hem).1
      have hrow : ∀ o, o = k * 18 → wr.rangeAt T o (gdC e) := fun o ho => hT'.row' he ho
      have hsz : (Try.prog.info? 60).map (·.size) = some (gdC e).length := by rw [gdC_length hlen]; exact size_guided
      have HE := Lib.hid he
      obtain ⟨Y, hY⟩ : ∃ Y, gdC e = Y := ⟨_, rfl⟩
      rw [hY] at hc hrow hsz
      obtain ⟨q, hq⟩ : ∃ q, free e = q := ⟨_, rfl⟩
      rw [hq] at hc
      have HQ := Lib.hid hq
      have HC := Lib.hid hc
      have HROW := Lib.hid hrow
      have HSZ := Lib.hid hsz
      have HPRE := Lib.hid hpre
      have HB := Lib.hid hB
      have i0 : (0 : Int) ≤ (k : Int) := by omega
      have i1 : (k : Int) < 8 := by omega
      clear hT' he hem hlen hc hrow hsz hY hq hpre hB
      cases q
      · go_wp2_with (refine wpList_load_mid rfl 60 _ rfl T _ rfl Y _ (HROW.out _ (by omega)) HU.out rfl HSZ.out ?_)
        refine HC.out.mono ?_; rintro e' w1 ⟨rfl, hB1⟩
        have HB1 := Lib.hid (HB.out.trans (hB1.mono HB.out.size))
        clear hB1
        go_wp2_with fail
        go_roundw
        case rel =>
          refine ⟨k + 1, by omega, by go_num, fun j e' hj hje => ?_, HB1.out⟩
          rcases Nat.lt_or_ge j k with h | h
          · exact HPRE.out j e' h hje
          · obtain rfl : j = k := by omega
            rw [HE.out] at hje
            injection hje with hje
            subst hje
            exact HQ.out
        case measure => simp [intOf]; omega
      · go_wp2_with (refine wpList_load_mid rfl 60 _ rfl T _ rfl Y _ (HROW.out _ (by omega)) HU.out rfl HSZ.out ?_)
        refine HC.out.mono ?_; rintro e' w1 ⟨rfl, hB1⟩
        have HB1 := Lib.hid (HB.out.trans (hB1.mono HB.out.size))
        clear hB1
        go_wp2_with fail
        go_ret
        exact ⟨_, rfl, .inl ⟨k, e, rfl, hlt, HE.out, HQ.out⟩, HB1.out⟩
    · obtain rfl : k = 8 := by omega
      have HPRE := Lib.hid hpre
      have HB := Lib.hid hB
      clear hpre hB
      go_wp2_with fail
      go_ret
      exact ⟨_, rfl, .inr ⟨rfl, bare_none (e := ⟨[], 0, 0⟩) HT.out.len HPRE.out⟩, HB.out⟩
end Go.Proofs.Ytadpgodmkodgdaa
