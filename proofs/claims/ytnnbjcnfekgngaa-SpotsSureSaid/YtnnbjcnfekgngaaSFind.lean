/- A set of spots: which of them is the one (IndexFunc, find). -/
import Derived.Test.YtnnbjcnfekgngaaSSet
namespace Go.Proofs.Ytnnbjcnfekgngaa
open Go.RowKit
set_option linter.unusedSimpArgs false
set_option linter.unusedVariables false

/-- The first of whom it is true; below 0: of nobody. -/
def IdxS (l : List Spt) (q : Spt → Bool) (r : Int) : Prop := (∃ (i : Nat) (s : Spt), r = (i : Int) ∧ l[i]? = some s ∧ q s = true ∧ ∀ j s', j < i → l[j]? = some s' → q s' = false) ∨ (r = -1 ∧ ∀ s ∈ l, q s = false)
theorem size_spt : (Try.prog.info? 49).map (·.size) = some 3 := by kernel_rfl
theorem bare_noneS {q : Spt → Bool} {l : List Spt} (h : ∀ j e, j < l.length → l[j]? = some e → q e = false) : ∀ e ∈ l, q e = false := fun e he => by
  obtain ⟨j, hj, rfl⟩ := List.getElem_of_mem he
  exact h j _ hj (List.getElem?_eq_getElem hj)
/-- What find tells: the first of whom it is true, where it lies in the set; else a new one. -/
def FindS (w : World) (g : Nat) (l : List Spt) (q : Spt → Bool) (e : Ending) (w' : World) : Prop :=
  ((∃ (i : Nat) (s : Spt), l[i]? = some s ∧ q s = true ∧ (∀ j s', j < i → l[j]? = some s' → q s' = false) ∧ e = .returned (.tuple #[.pointer (some ⟨g, 3 * i, none⟩), .bool true]))
    ∨ ((∀ s ∈ l, q s = false) ∧ ∃ Y, w.heap.size ≤ Y ∧ e = .returned (.tuple #[.pointer (some ⟨Y, 0, none⟩), .bool false]) ∧ Blk w' Y 49 [.int .u32 0, .int .u8 1, .pointer none])) ∧ Below w.heap.size w w'
set_option maxRecDepth 100000 in
set_option maxHeartbeats 2000000 in
theorem idx_at (p g X : Nat) (l : List Spt) (cr : Int) (q : Spt → Bool) (w : World) (h : SetAt w p g l cr)
    (hc : ∀ s ∈ l, ∀ W, Below w.heap.size w W → Calls Try.prog 22 #[.agg (spC s).toArray, .pointer (some ⟨X, 0, none⟩)] W fun e w' => e = .returned (.bool (q s)) ∧ Below W.heap.size W w') :
    Calls Try.prog 21 #[.slice (some ⟨g, 0, none⟩) l.length l.length, .func (.func 22) #[] #[.pointer (some ⟨X, 0, none⟩)]] w fun e w' => ∃ r, e = .returned (.int .i64 r) ∧ IdxS l q r ∧ Below w.heap.size w w' := by
  have hu : Try.prog.underlying 49 = some (.struct _) := Try.underlying49
  have HT := Lib.hid h
  have HC0 := Lib.hid hc
  have HU := Lib.hid hu
  have HSZ := Lib.hid size_spt
  obtain ⟨n, hn⟩ : ∃ n, l.length = n := ⟨_, rfl⟩
  have hn4 : n ≤ 4 := by have := h.len; omega
  have HN := Lib.hid hn
  rw [hn]
  clear h hc hu hn
  go_enter Try.func21, Try.ntmps21
  go_wp2_with fail
  go_loopw [8] (fun i wr => ∃ k : Nat, k ≤ n ∧ i = .int .i64 k ∧ (∀ j e, j < k → l[j]? = some e → q e = false) ∧ Below w.heap.size w wr) (fun i _ => n - (intOf i).toNat)
  case atStart => exact ⟨0, Nat.zero_le _, rfl, fun j e hj _ => absurd hj (by omega), Below.refl _ _⟩
  case round =>
    obtain ⟨k, hk, rfl, hpre, hB⟩ := hrel
    by_cases hlt : k < n
    · have hT' := HT.out.below hB
      obtain ⟨e, he⟩ : ∃ e, l[k]? = some e := ⟨_, List.getElem?_eq_getElem (by rw [HN.out]; exact hlt)⟩
      have hem := List.mem_of_getElem? he
      have hc := HC0.out e hem wr hB
      have hrow : ∀ o, o = k * 3 → wr.rangeAt g o (spC e) := fun o ho => hT'.range he ho
      have hsz : (Try.prog.info? 49).map (·.size) = some (spC e).length := HSZ.out
      have HE := Lib.hid he
      obtain ⟨Y, hY⟩ : ∃ Y, spC e = Y := ⟨_, rfl⟩
      rw [hY] at hc hrow hsz
      obtain ⟨b, hb⟩ : ∃ b, q e = b := ⟨_, rfl⟩
      rw [hb] at hc
      have HQ := Lib.hid hb
      have HC := Lib.hid hc
      have HROW := Lib.hid hrow
      have HSZ' := Lib.hid hsz
      have HPRE := Lib.hid hpre
      have HB := Lib.hid hB
      have i0 : (0 : Int) ≤ (k : Int) := by omega
      have i1 : (k : Int) < (n : Int) := by omega
      clear hT' he hem hc hrow hsz hY hb hpre hB
      cases b
      · go_wp2_with (refine wpList_load_mid rfl 49 _ rfl g _ rfl Y _ (HROW.out _ (by omega)) HU.out rfl HSZ'.out ?_)
        refine HC.out.mono ?_; rintro e' w1 ⟨rfl, hB1⟩
        have HB1 := Lib.hid (HB.out.trans (hB1.mono HB.out.size))
        clear hB1
        go_wp2_with fail
        go_roundw
        case rel =>
          refine ⟨k + 1, by omega, by go_num, fun j e' hj hje => ?_, HB1.out⟩
          rcases Nat.lt_or_ge j k with h | h
          · exact HPRE.out j e' h hje
          · obtain rfl : j = k := by omega
            rw [HE.out] at hje
            injection hje with hje
            subst hje
            exact HQ.out
        case measure => simp [intOf]; omega
      · go_wp2_with (refine wpList_load_mid rfl 49 _ rfl g _ rfl Y _ (HROW.out _ (by omega)) HU.out rfl HSZ'.out ?_)
        refine HC.out.mono ?_; rintro e' w1 ⟨rfl, hB1⟩
        have HB1 := Lib.hid (HB.out.trans (hB1.mono HB.out.size))
        clear hB1
        go_wp2_with fail
        go_ret
        exact ⟨_, rfl, .inl ⟨k, e, rfl, HE.out, HQ.out, HPRE.out⟩, HB1.out⟩
    · obtain rfl : k = n := by omega
      have HPRE := Lib.hid hpre
      have HB := Lib.hid hB
      clear hpre hB
      go_wp2_with fail
      go_ret
      exact ⟨_, rfl, .inr ⟨rfl, bare_noneS (by rw [HN.out]; exact HPRE.out)⟩, HB.out⟩
/-- What find tells. -/
theorem find_at (p g X : Nat) (l : List Spt) (cr : Int) (q : Spt → Bool) (w : World) (h : SetAt w p g l cr)
    (hc : ∀ s ∈ l, ∀ W, Below w.heap.size w W → Calls Try.prog 22 #[.agg (spC s).toArray, .pointer (some ⟨X, 0, none⟩)] W fun e w' => e = .returned (.bool (q s)) ∧ Below W.heap.size W w') :
    Calls Try.prog 16 #[.pointer (some ⟨p, 0, none⟩), .func (.func 22) #[] #[.pointer (some ⟨X, 0, none⟩)]] w fun e w' => FindS w g l q e w' := by
  have c0 := h.c0
  have HI := Lib.hid (idx_at p g X l cr q w h hc)
  have HT := Lib.hid h
  obtain ⟨n, hn⟩ : ∃ n, l.length = n := ⟨_, rfl⟩
  have hn4 : n ≤ 4 := by have := h.len; omega
  have HN := Lib.hid hn
  rw [hn] at c0 HI
  clear h hc hn
  go_enter Try.func16, Try.ntmps16
  go_wp2_with fail
  refine HI.out.mono ?_; rintro e w1 ⟨r, rfl, hr, hB1⟩
  have HB1 := Lib.hid hB1
  have k0 : w1.cell? ⟨p, 0, none⟩ = some (.slice (some ⟨g, 0, none⟩) n n) := by rw [← HN.out]; exact (HT.out.below hB1).c0
  rcases hr with ⟨i, s, rfl, hi, hq, hpre⟩ | ⟨rfl, hno⟩
  · have hin : i < n := by have := (List.getElem?_eq_some_iff.1 hi).1; have := HN.out; omega
    have hge : (0 : Int) ≤ (i : Int) := by omega
    have hlt : (i : Int) < (n : Int) := by omega
    have HA := Lib.hid (And.intro hi (And.intro hq hpre))
    clear hi hq hpre hB1 c0
    go_wp2_with fail
    go_ret2
    exact ⟨.inl ⟨i, s, HA.out.1, HA.out.2.1, HA.out.2.2, by rw [Nat.mul_comm] <;> rfl⟩, HB1.out⟩
  · have HNO := Lib.hid hno
    have HZ := Lib.hid hB1.size
    clear hno hB1 c0
    go_wp2_with fail
    go_ret2
    exact ⟨.inr ⟨HNO.out, w1.heap.size, HZ.out, rfl, Blk.new w1 49 [.int .u32 0, .int .u8 1, .pointer none]⟩, HB1.out.alloc HB1.out.size _⟩
set_option maxRecDepth 100000 in
set_option maxHeartbeats 2000000 in
theorem idx_back (p g X : Nat) (l : List Spt) (cr : Int) (q : Spt → Bool) (w : World) (h : SetAt w p g l cr)
    (hc : ∀ s ∈ l, ∀ W, Below w.heap.size w W → Calls Try.prog 18 #[.agg (spC s).toArray, .pointer (some ⟨X, 0, none⟩)] W fun e w' => e = .returned (.bool (q s)) ∧ Below W.heap.size W w') :
    Calls Try.prog 21 #[.slice (some ⟨g, 0, none⟩) l.length l.length, .func (.func 18) #[] #[.pointer (some ⟨X, 0, none⟩)]] w fun e w' => ∃ r, e = .returned (.int .i64 r) ∧ IdxS l q r ∧ Below w.heap.size w w' := by
  have hu : Try.prog.underlying 49 = some (.struct _) := Try.underlying49
  have HT := Lib.hid h
  have HC0 := Lib.hid hc
  have HU := Lib.hid hu
  have HSZ := Lib.hid size_spt
  obtain ⟨n, hn⟩ : ∃ n, l.length = n := ⟨_, rfl⟩
  have hn4 : n ≤ 4 := by have := h.len; omega
  have HN := Lib.hid hn
  rw [hn]
  clear h hc hu hn
  go_enter Try.func21, Try.ntmps21
  go_wp2_with fail
  go_loopw [8] (fun i wr => ∃ k : Nat, k ≤ n ∧ i = .int .i64 k ∧ (∀ j e, j < k → l[j]? = some e → q e = false) ∧ Below w.heap.size w wr) (fun i _ => n - (intOf i).toNat)
  case atStart => exact ⟨0, Nat.zero_le _, rfl, fun j e hj _ => absurd hj (by omega), Below.refl _ _⟩
  case round =>
    obtain ⟨k, hk, rfl, hpre, hB⟩ := hrel
    by_cases hlt : k < n
    · have hT' := HT.out.below hB
      obtain ⟨e, he⟩ : ∃ e, l[k]? = some e := ⟨_, List.getElem?_eq_getElem (by rw [HN.out]; exact hlt)⟩
      have hem := List.mem_of_getElem? he
      have hc := HC0.out e hem wr hB
      have hrow : ∀ o, o = k * 3 → wr.rangeAt g o (spC e) := fun o ho => hT'.range he ho
      have hsz : (Try.prog.info? 49).map (·.size) = some (spC e).length := HSZ.out
      have HE := Lib.hid he
      obtain ⟨Y, hY⟩ : ∃ Y, spC e = Y := ⟨_, rfl⟩
      rw [hY] at hc hrow hsz
      obtain ⟨b, hb⟩ : ∃ b, q e = b := ⟨_, rfl⟩
      rw [hb] at hc
      have HQ := Lib.hid hb
      have HC := Lib.hid hc
      have HROW := Lib.hid hrow
      have HSZ' := Lib.hid hsz
      have HPRE := Lib.hid hpre
      have HB := Lib.hid hB
      have i0 : (0 : Int) ≤ (k : Int) := by omega
      have i1 : (k : Int) < (n : Int) := by omega
      clear hT' he hem hc hrow hsz hY hb hpre hB
      cases b
      · go_wp2_with (refine wpList_load_mid rfl 49 _ rfl g _ rfl Y _ (HROW.out _ (by omega)) HU.out rfl HSZ'.out ?_)
        refine HC.out.mono ?_; rintro e' w1 ⟨rfl, hB1⟩
        have HB1 := Lib.hid (HB.out.trans (hB1.mono HB.out.size))
        clear hB1
        go_wp2_with fail
        go_roundw
        case rel =>
          refine ⟨k + 1, by omega, by go_num, fun j e' hj hje => ?_, HB1.out⟩
          rcases Nat.lt_or_ge j k with h | h
          · exact HPRE.out j e' h hje
          · obtain rfl : j = k := by omega
            rw [HE.out] at hje
            injection hje with hje
            subst hje
            exact HQ.out
        case measure => simp [intOf]; omega
      · go_wp2_with (refine wpList_load_mid rfl 49 _ rfl g _ rfl Y _ (HROW.out _ (by omega)) HU.out rfl HSZ'.out ?_)
        refine HC.out.mono ?_; rintro e' w1 ⟨rfl, hB1⟩
        have HB1 := Lib.hid (HB.out.trans (hB1.mono HB.out.size))
        clear hB1
        go_wp2_with fail
        go_ret
        exact ⟨_, rfl, .inl ⟨k, e, rfl, HE.out, HQ.out, HPRE.out⟩, HB1.out⟩
    · obtain rfl : k = n := by omega
      have HPRE := Lib.hid hpre
      have HB := Lib.hid hB
      clear hpre hB
      go_wp2_with fail
      go_ret
      exact ⟨_, rfl, .inr ⟨rfl, bare_noneS (by rw [HN.out]; exact HPRE.out)⟩, HB.out⟩
/-- What find tells. -/
theorem find_back (p g X : Nat) (l : List Spt) (cr : Int) (q : Spt → Bool) (w : World) (h : SetAt w p g l cr)
    (hc : ∀ s ∈ l, ∀ W, Below w.heap.size w W → Calls Try.prog 18 #[.agg (spC s).toArray, .pointer (some ⟨X, 0, none⟩)] W fun e w' => e = .returned (.bool (q s)) ∧ Below W.heap.size W w') :
    Calls Try.prog 16 #[.pointer (some ⟨p, 0, none⟩), .func (.func 18) #[] #[.pointer (some ⟨X, 0, none⟩)]] w fun e w' => FindS w g l q e w' := by
  have c0 := h.c0
  have HI := Lib.hid (idx_back p g X l cr q w h hc)
  have HT := Lib.hid h
  obtain ⟨n, hn⟩ : ∃ n, l.length = n := ⟨_, rfl⟩
  have hn4 : n ≤ 4 := by have := h.len; omega
  have HN := Lib.hid hn
  rw [hn] at c0 HI
  clear h hc hn
  go_enter Try.func16, Try.ntmps16
  go_wp2_with fail
  refine HI.out.mono ?_; rintro e w1 ⟨r, rfl, hr, hB1⟩
  have HB1 := Lib.hid hB1
  have k0 : w1.cell? ⟨p, 0, none⟩ = some (.slice (some ⟨g, 0, none⟩) n n) := by rw [← HN.out]; exact (HT.out.below hB1).c0
  rcases hr with ⟨i, s, rfl, hi, hq, hpre⟩ | ⟨rfl, hno⟩
  · have hin : i < n := by have := (List.getElem?_eq_some_iff.1 hi).1; have := HN.out; omega
    have hge : (0 : Int) ≤ (i : Int) := by omega
    have hlt : (i : Int) < (n : Int) := by omega
    have HA := Lib.hid (And.intro hi (And.intro hq hpre))
    clear hi hq hpre hB1 c0
    go_wp2_with fail
    go_ret2
    exact ⟨.inl ⟨i, s, HA.out.1, HA.out.2.1, HA.out.2.2, by rw [Nat.mul_comm] <;> rfl⟩, HB1.out⟩
  · have HNO := Lib.hid hno
    have HZ := Lib.hid hB1.size
    clear hno hB1 c0
    go_wp2_with fail
    go_ret2
    exact ⟨.inr ⟨HNO.out, w1.heap.size, HZ.out, rfl, Blk.new w1 49 [.int .u32 0, .int .u8 1, .pointer none]⟩, HB1.out.alloc HB1.out.size _⟩
end Go.Proofs.Ytnnbjcnfekgngaa
