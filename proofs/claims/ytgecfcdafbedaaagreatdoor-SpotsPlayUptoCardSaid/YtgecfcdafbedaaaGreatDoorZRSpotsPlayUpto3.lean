/- A set of spots: which of them is the one (IndexFunc, find); Parameters that are arrays or structs, opened: part by part. -/
import Derived.Test.YtgecfcdafbedaaaGreatDoorZRSpotsPlayUpto2
import Derived.Test.YtgecfcdafbedaaaGreatDoorZRSpotsPlayUpto0
import Derived.ChangeSlices
import Derived.ChangeArms
import Derived.SizedLaws
import Derived.ProofKit
import Derived.OpenShut
namespace Go.Proofs.YtgecfcdafbedaaaGreatDoor
open Go.RowKit
set_option linter.unusedSimpArgs false
set_option linter.unusedVariables false

/-- The first of whom it is true; below 0: of nobody. -/
def IdxS (l : List Spt) (q : Spt → Bool) (r : Int) : Prop := (∃ (i : Nat) (s : Spt), r = (i : Int) ∧ l[i]? = some s ∧ q s = true ∧ ∀ j s', j < i → l[j]? = some s' → q s' = false) ∨ (r = -1 ∧ ∀ s ∈ l, q s = false)
theorem size_spt : (Tryz.prog.info? 74).map (·.size) = some 3 := by kernel_rfl
theorem bare_noneS {q : Spt → Bool} {l : List Spt} (h : ∀ j e, j < l.length → l[j]? = some e → q e = false) : ∀ e ∈ l, q e = false := fun e he => by
  obtain ⟨j, hj, rfl⟩ := List.getElem_of_mem he
  exact h j _ hj (List.getElem?_eq_getElem hj)
/-- What find tells: the first of whom it is true, where it lies in the set; else a new one. -/
def FindS (w : World) (g : Nat) (l : List Spt) (q : Spt → Bool) (e : Ending) (w' : World) : Prop :=
  ((∃ (i : Nat) (s : Spt), l[i]? = some s ∧ q s = true ∧ (∀ j s', j < i → l[j]? = some s' → q s' = false) ∧ e = .returned (.tuple #[.pointer (some ⟨g, 3 * i, none⟩), .bool true]))
    ∨ ((∀ s ∈ l, q s = false) ∧ ∃ Y, w.heap.size ≤ Y ∧ e = .returned (.tuple #[.pointer (some ⟨Y, 0, none⟩), .bool false]) ∧ Blk w' Y 74 [.int .u32 0, .int .u8 1, .pointer none])) ∧ Below w.heap.size w w'
set_option maxRecDepth 100000 in
set_option maxHeartbeats 2000000 in
theorem idx_at (p g X : Nat) (l : List Spt) (cr : Int) (q : Spt → Bool) (w : World) (h : SetAt w p g l cr)
    (hc : ∀ s ∈ l, ∀ W, Below w.heap.size w W → Calls Tryz.prog 83 #[.agg (spC s).toArray, .pointer (some ⟨X, 0, none⟩)] W fun e w' => e = .returned (.bool (q s)) ∧ Below W.heap.size W w') :
    Calls Tryz.prog 82 #[.slice (some ⟨g, 0, none⟩) l.length l.length, .func (.func 83) #[] #[.pointer (some ⟨X, 0, none⟩)]] w fun e w' => ∃ r, e = .returned (.int .i64 r) ∧ IdxS l q r ∧ Below w.heap.size w w' := by
  have hu : Tryz.prog.underlying 74 = some (.struct _) := Tryz.underlying74
  have HT := Lib.hid h
  have HC0 := Lib.hid hc
  have HU := Lib.hid hu
  have HSZ := Lib.hid size_spt
  obtain ⟨n, hn⟩ : ∃ n, l.length = n := ⟨_, rfl⟩
  have hn4 : n ≤ 4 := by have := h.len; omega
  have HN := Lib.hid hn
  rw [hn]
  clear h hc hu hn
  go_enter Tryz.func82, Tryz.ntmps82
  go_wp2_with fail
  go_loopw [8] (fun i wr => ∃ k : Nat, k ≤ n ∧ i = .int .i64 k ∧ (∀ j e, j < k → l[j]? = some e → q e = false) ∧ Below w.heap.size w wr) (fun i _ => n - (intOf i).toNat)
  case atStart => exact ⟨0, Nat.zero_le _, rfl, fun j e hj _ => absurd hj (by omega), Below.refl _ _⟩
  case round =>
    obtain ⟨k, hk, rfl, hpre, hB⟩ := hrel
    by_cases hlt : k < n
    · have hT' := HT.out.below hB
      obtain ⟨e, he⟩ : ∃ e, l[k]? = some e := ⟨_, List.getElem?_eq_getElem (by rw [HN.out]; exact hlt)⟩
      have hem := List.mem_of_getElem? he
      have hc := HC0.out e hem wr hB
      have hrow : ∀ o, o = k * 3 → wr.rangeAt g o (spC e) := fun o ho => hT'.range he ho
      have hsz : (Tryz.prog.info? 74).map (·.size) = some (spC e).length := HSZ.out
      have HE := Lib.hid he
      obtain ⟨Y, hY⟩ : ∃ Y, spC e = Y := ⟨_, rfl⟩
      rw [hY] at hc hrow hsz
      obtain ⟨b, hb⟩ : ∃ b, q e = b := ⟨_, rfl⟩
      rw [hb] at hc
      have HQ := Lib.hid hb
      have HC := Lib.hid hc
      have HROW := Lib.hid hrow
      have HSZ' := Lib.hid hsz
      have HPRE := Lib.hid hpre
      have HB := Lib.hid hB
      have i0 : (0 : Int) ≤ (k : Int) := by omega
      have i1 : (k : Int) < (n : Int) := by omega
      clear hT' he hem hc hrow hsz hY hb hpre hB
      cases b
      · go_wp2_with (refine wpList_load_mid rfl 74 _ rfl g _ rfl Y _ (HROW.out _ (by omega)) HU.out rfl HSZ'.out ?_)
        refine HC.out.mono ?_; rintro e' w1 ⟨rfl, hB1⟩
        have HB1 := Lib.hid (HB.out.trans (hB1.mono HB.out.size))
        clear hB1
        go_wp2_with fail
        go_roundw
        case rel =>
          refine ⟨k + 1, by omega, by go_num, fun j e' hj hje => ?_, HB1.out⟩
          rcases Nat.lt_or_ge j k with h | h
          · exact HPRE.out j e' h hje
          · obtain rfl : j = k := by omega
            rw [HE.out] at hje
            injection hje with hje
            subst hje
            exact HQ.out
        case measure => simp [intOf]; omega
      · go_wp2_with (refine wpList_load_mid rfl 74 _ rfl g _ rfl Y _ (HROW.out _ (by omega)) HU.out rfl HSZ'.out ?_)
        refine HC.out.mono ?_; rintro e' w1 ⟨rfl, hB1⟩
        have HB1 := Lib.hid (HB.out.trans (hB1.mono HB.out.size))
        clear hB1
        go_wp2_with fail
        go_ret
        exact ⟨_, rfl, .inl ⟨k, e, rfl, HE.out, HQ.out, HPRE.out⟩, HB1.out⟩
    · obtain rfl : k = n := by omega
      have HPRE := Lib.hid hpre
      have HB := Lib.hid hB
      clear hpre hB
      go_wp2_with fail
      go_ret
      exact ⟨_, rfl, .inr ⟨rfl, bare_noneS (by rw [HN.out]; exact HPRE.out)⟩, HB.out⟩
/-- What find tells. -/
theorem find_at (p g X : Nat) (l : List Spt) (cr : Int) (q : Spt → Bool) (w : World) (h : SetAt w p g l cr)
    (hc : ∀ s ∈ l, ∀ W, Below w.heap.size w W → Calls Tryz.prog 83 #[.agg (spC s).toArray, .pointer (some ⟨X, 0, none⟩)] W fun e w' => e = .returned (.bool (q s)) ∧ Below W.heap.size W w') :
    Calls Tryz.prog 29 #[.pointer (some ⟨p, 0, none⟩), .func (.func 83) #[] #[.pointer (some ⟨X, 0, none⟩)]] w fun e w' => FindS w g l q e w' := by
  have c0 := h.c0
  have HI := Lib.hid (idx_at p g X l cr q w h hc)
  have HT := Lib.hid h
  obtain ⟨n, hn⟩ : ∃ n, l.length = n := ⟨_, rfl⟩
  have hn4 : n ≤ 4 := by have := h.len; omega
  have HN := Lib.hid hn
  rw [hn] at c0 HI
  clear h hc hn
  go_enter Tryz.func29, Tryz.ntmps29
  go_wp2_with fail
  refine HI.out.mono ?_; rintro e w1 ⟨r, rfl, hr, hB1⟩
  have HB1 := Lib.hid hB1
  have k0 : w1.cell? ⟨p, 0, none⟩ = some (.slice (some ⟨g, 0, none⟩) n n) := by rw [← HN.out]; exact (HT.out.below hB1).c0
  rcases hr with ⟨i, s, rfl, hi, hq, hpre⟩ | ⟨rfl, hno⟩
  · have hin : i < n := by have := (List.getElem?_eq_some_iff.1 hi).1; have := HN.out; omega
    have hge : (0 : Int) ≤ (i : Int) := by omega
    have hlt : (i : Int) < (n : Int) := by omega
    have HA := Lib.hid (And.intro hi (And.intro hq hpre))
    clear hi hq hpre hB1 c0
    go_wp2_with fail
    go_ret2
    exact ⟨.inl ⟨i, s, HA.out.1, HA.out.2.1, HA.out.2.2, by rw [Nat.mul_comm] <;> rfl⟩, HB1.out⟩
  · have HNO := Lib.hid hno
    have HZ := Lib.hid hB1.size
    clear hno hB1 c0
    go_wp2_with fail
    go_ret2
    exact ⟨.inr ⟨HNO.out, w1.heap.size, HZ.out, rfl, Blk.new w1 74 [.int .u32 0, .int .u8 1, .pointer none]⟩, HB1.out.alloc HB1.out.size _⟩
set_option maxRecDepth 100000 in
set_option maxHeartbeats 2000000 in
theorem idx_back (p g X : Nat) (l : List Spt) (cr : Int) (q : Spt → Bool) (w : World) (h : SetAt w p g l cr)
    (hc : ∀ s ∈ l, ∀ W, Below w.heap.size w W → Calls Tryz.prog 32 #[.agg (spC s).toArray, .pointer (some ⟨X, 0, none⟩)] W fun e w' => e = .returned (.bool (q s)) ∧ Below W.heap.size W w') :
    Calls Tryz.prog 82 #[.slice (some ⟨g, 0, none⟩) l.length l.length, .func (.func 32) #[] #[.pointer (some ⟨X, 0, none⟩)]] w fun e w' => ∃ r, e = .returned (.int .i64 r) ∧ IdxS l q r ∧ Below w.heap.size w w' := by
  have hu : Tryz.prog.underlying 74 = some (.struct _) := Tryz.underlying74
  have HT := Lib.hid h
  have HC0 := Lib.hid hc
  have HU := Lib.hid hu
  have HSZ := Lib.hid size_spt
  obtain ⟨n, hn⟩ : ∃ n, l.length = n := ⟨_, rfl⟩
  have hn4 : n ≤ 4 := by have := h.len; omega
  have HN := Lib.hid hn
  rw [hn]
  clear h hc hu hn
  go_enter Tryz.func82, Tryz.ntmps82
  go_wp2_with fail
  go_loopw [8] (fun i wr => ∃ k : Nat, k ≤ n ∧ i = .int .i64 k ∧ (∀ j e, j < k → l[j]? = some e → q e = false) ∧ Below w.heap.size w wr) (fun i _ => n - (intOf i).toNat)
  case atStart => exact ⟨0, Nat.zero_le _, rfl, fun j e hj _ => absurd hj (by omega), Below.refl _ _⟩
  case round =>
    obtain ⟨k, hk, rfl, hpre, hB⟩ := hrel
    by_cases hlt : k < n
    · have hT' := HT.out.below hB
      obtain ⟨e, he⟩ : ∃ e, l[k]? = some e := ⟨_, List.getElem?_eq_getElem (by rw [HN.out]; exact hlt)⟩
      have hem := List.mem_of_getElem? he
      have hc := HC0.out e hem wr hB
      have hrow : ∀ o, o = k * 3 → wr.rangeAt g o (spC e) := fun o ho => hT'.range he ho
      have hsz : (Tryz.prog.info? 74).map (·.size) = some (spC e).length := HSZ.out
      have HE := Lib.hid he
      obtain ⟨Y, hY⟩ : ∃ Y, spC e = Y := ⟨_, rfl⟩
      rw [hY] at hc hrow hsz
      obtain ⟨b, hb⟩ : ∃ b, q e = b := ⟨_, rfl⟩
      rw [hb] at hc
      have HQ := Lib.hid hb
      have HC := Lib.hid hc
      have HROW := Lib.hid hrow
      have HSZ' := Lib.hid hsz
      have HPRE := Lib.hid hpre
      have HB := Lib.hid hB
      have i0 : (0 : Int) ≤ (k : Int) := by omega
      have i1 : (k : Int) < (n : Int) := by omega
      clear hT' he hem hc hrow hsz hY hb hpre hB
      cases b
      · go_wp2_with (refine wpList_load_mid rfl 74 _ rfl g _ rfl Y _ (HROW.out _ (by omega)) HU.out rfl HSZ'.out ?_)
        refine HC.out.mono ?_; rintro e' w1 ⟨rfl, hB1⟩
        have HB1 := Lib.hid (HB.out.trans (hB1.mono HB.out.size))
        clear hB1
        go_wp2_with fail
        go_roundw
        case rel =>
          refine ⟨k + 1, by omega, by go_num, fun j e' hj hje => ?_, HB1.out⟩
          rcases Nat.lt_or_ge j k with h | h
          · exact HPRE.out j e' h hje
          · obtain rfl : j = k := by omega
            rw [HE.out] at hje
            injection hje with hje
            subst hje
            exact HQ.out
        case measure => simp [intOf]; omega
      · go_wp2_with (refine wpList_load_mid rfl 74 _ rfl g _ rfl Y _ (HROW.out _ (by omega)) HU.out rfl HSZ'.out ?_)
        refine HC.out.mono ?_; rintro e' w1 ⟨rfl, hB1⟩
        have HB1 := Lib.hid (HB.out.trans (hB1.mono HB.out.size))
        clear hB1
        go_wp2_with fail
        go_ret
        exact ⟨_, rfl, .inl ⟨k, e, rfl, HE.out, HQ.out, HPRE.out⟩, HB1.out⟩
    · obtain rfl : k = n := by omega
      have HPRE := Lib.hid hpre
      have HB := Lib.hid hB
      clear hpre hB
      go_wp2_with fail
      go_ret
      exact ⟨_, rfl, .inr ⟨rfl, bare_noneS (by rw [HN.out]; exact HPRE.out)⟩, HB.out⟩
/-- What find tells. -/
theorem find_back (p g X : Nat) (l : List Spt) (cr : Int) (q : Spt → Bool) (w : World) (h : SetAt w p g l cr)
    (hc : ∀ s ∈ l, ∀ W, Below w.heap.size w W → Calls Tryz.prog 32 #[.agg (spC s).toArray, .pointer (some ⟨X, 0, none⟩)] W fun e w' => e = .returned (.bool (q s)) ∧ Below W.heap.size W w') :
    Calls Tryz.prog 29 #[.pointer (some ⟨p, 0, none⟩), .func (.func 32) #[] #[.pointer (some ⟨X, 0, none⟩)]] w fun e w' => FindS w g l q e w' := by
  have c0 := h.c0
  have HI := Lib.hid (idx_back p g X l cr q w h hc)
  have HT := Lib.hid h
  obtain ⟨n, hn⟩ : ∃ n, l.length = n := ⟨_, rfl⟩
  have hn4 : n ≤ 4 := by have := h.len; omega
  have HN := Lib.hid hn
  rw [hn] at c0 HI
  clear h hc hn
  go_enter Tryz.func29, Tryz.ntmps29
  go_wp2_with fail
  refine HI.out.mono ?_; rintro e w1 ⟨r, rfl, hr, hB1⟩
  have HB1 := Lib.hid hB1
  have k0 : w1.cell? ⟨p, 0, none⟩ = some (.slice (some ⟨g, 0, none⟩) n n) := by rw [← HN.out]; exact (HT.out.below hB1).c0
  rcases hr with ⟨i, s, rfl, hi, hq, hpre⟩ | ⟨rfl, hno⟩
  · have hin : i < n := by have := (List.getElem?_eq_some_iff.1 hi).1; have := HN.out; omega
    have hge : (0 : Int) ≤ (i : Int) := by omega
    have hlt : (i : Int) < (n : Int) := by omega
    have HA := Lib.hid (And.intro hi (And.intro hq hpre))
    clear hi hq hpre hB1 c0
    go_wp2_with fail
    go_ret2
    exact ⟨.inl ⟨i, s, HA.out.1, HA.out.2.1, HA.out.2.2, by rw [Nat.mul_comm] <;> rfl⟩, HB1.out⟩
  · have HNO := Lib.hid hno
    have HZ := Lib.hid hB1.size
    clear hno hB1 c0
    go_wp2_with fail
    go_ret2
    exact ⟨.inr ⟨HNO.out, w1.heap.size, HZ.out, rfl, Blk.new w1 74 [.int .u32 0, .int .u8 1, .pointer none]⟩, HB1.out.alloc HB1.out.size _⟩
end Go.Proofs.YtgecfcdafbedaaaGreatDoor

namespace Go.Proofs.YtgecfcdafbedaaaGreatDoor
open Go.RowKit Go.ChangeShapes Go.WideShapes
set_option linter.unusedSimpArgs false
set_option linter.unusedVariables false
section
variable {H : Type} {enc : TypeId × Value → H} {P : Program} {w : World} {base : Nat} {spare : Nat → Bool} {held : Bool} {t e : TypeId} {fuel n : Nat} {cs : List Value} {x : DataW H × List MemPlace}

theorem mapM_parts {α β : Type} {f : α → Option β} : ∀ {L : List α} {xs : List β}, L.mapM f = some xs → xs.length = L.length ∧ ∀ (i : Nat) (a : α), L[i]? = some a → ∃ y, xs[i]? = some y ∧ f a = some y
  | [], xs, h => by
    simp at h
    subst h
    exact ⟨rfl, fun i a h => by simp at h⟩
  | a :: L, xs, h => by
    rw [List.mapM_cons] at h
    simp only [bind, Option.bind_eq_some_iff, pure, Option.some.injEq] at h
    obtain ⟨y, hy, ys, hys, rfl⟩ := h
    obtain ⟨hl, hp⟩ := mapM_parts hys
    refine ⟨by simp [hl], fun i b hb => ?_⟩
    cases i with
    | zero => simp at hb; subst hb; exact ⟨y, rfl, hy⟩
    | succ i => exact hp i b (by simpa using hb)

theorem weights_all {P : Program} {e : TypeId} : ∀ {l : List (DataW H)} {i : Nat} {d : DataW H}, l[i]? = some d → ∀ n ∈ d.weights P e, n ∈ DataW.weightsAll P e l
  | [], _, _, h, _, _ => by simp at h
  | d0 :: l, 0, d, h, n, hn => by
    simp at h; subst h
    simp only [DataW.weightsAll, List.mem_append]
    exact .inl hn
  | d0 :: l, i + 1, d, h, n, hn => by
    simp only [DataW.weightsAll, List.mem_append]
    exact .inr (weights_all (by simpa using h) n hn)

/-- All that a datum weighs is within reach. -/
def Light (P : Program) (t : TypeId) (d : DataW H) : Prop := (d.weights P t).all (· ≤ reachBytes) = true

/-- An array, part by part. -/
theorem open_array (hu : P.underlying t = some (.array n e)) (h : DataW.trod enc P w base spare held fuel t cs = some x) :
    cs.length = P.cellsOf t ∧ ∃ m, ∀ i, i < n → ∃ y, DataW.trod enc P w base spare held m e ((cs.drop (i * P.cellsOf e)).take (P.cellsOf e)) = some y ∧ (Light P t x.1 → Light P e y.1) := by
  cases fuel with
  | zero => simp [DataW.trod] at h
  | succ m =>
    rw [DataW.trod_step] at h
    unfold DataW.trodStep at h
    simp only [hu] at h
    split at h
    · rename_i hl
      simp only [Option.map_eq_some_iff] at h
      obtain ⟨ys, hy, rfl⟩ := h
      refine ⟨hl, m, fun i hi => ?_⟩
      obtain ⟨hlen, hp⟩ := mapM_parts hy
      obtain ⟨y, hy1, hy2⟩ := hp i i (by simp [hi])
      refine ⟨y, hy2, fun hL => List.all_eq_true.2 fun k hk => List.all_eq_true.1 hL k ?_⟩
      simp only [DataW.weights, hu]
      exact weights_all (i := i) (by simp [hy1]) k hk
    · cases h

/-- A struct, field by field. -/
theorem open_struct {fs : Array Field} (hu : P.underlying t = some (.struct fs)) (h : DataW.trod enc P w base spare held fuel t cs = some x) :
    cs.length = P.cellsOf t ∧ ∃ m, ∀ (i : Nat) (f : Field), fs.toList[i]? = some f → ∃ y, DataW.trod enc P w base spare held m f.type ((cs.drop f.offset).take (P.cellsOf f.type)) = some y ∧ (Light P t x.1 → Light P f.type y.1) := by
  cases fuel with
  | zero => simp [DataW.trod] at h
  | succ m =>
    rw [DataW.trod_step] at h
    unfold DataW.trodStep at h
    simp only [hu] at h
    split at h
    · rename_i hl
      simp only [Option.map_eq_some_iff] at h
      obtain ⟨ys, hy, rfl⟩ := h
      refine ⟨hl, m, fun i f hi => ?_⟩
      obtain ⟨hlen, hp⟩ := mapM_parts hy
      obtain ⟨y, hy1, hy2⟩ := hp i f hi
      refine ⟨y, hy2, fun hL => List.all_eq_true.2 fun k hk => List.all_eq_true.1 hL k ?_⟩
      simp only [DataW.weights, hu]
      exact DataW.weights_mem_each (j := i) (by simp [hi]) (by simp [hy1]) k hk
    · cases h

/-- A whole number, a bool. -/
theorem cell_int {k : IntKind} (hu : P.underlying t = some (.int k)) (h : DataW.trod enc P w base spare held fuel t cs = some x) : ∃ a, cs = [.int k a] ∧ (Lit.int k a).wf = true := by
  obtain ⟨a, h1, _, h2⟩ := DataW.trod_int hu h
  exact ⟨a, h1, h2⟩

theorem drop_one {α : Type} {l : List α} {i : Nat} {a : α} (h : (l.drop (i * 1)).take 1 = [a]) : l[i]? = some a := by
  have := congrArg (·[0]?) h
  simpa [List.getElem?_take, List.getElem?_drop] using this

/-- An array of whole numbers. -/
theorem open_array_ints {k : IntKind} (hu : P.underlying t = some (.array n e)) (he : P.underlying e = some (.int k)) (hc : P.cellsOf e = 1) (hct : P.cellsOf t = n) (h : DataW.trod enc P w base spare held fuel t cs = some x) :
    ∃ l : List Int, cs = l.map (Value.int k) ∧ l.length = n ∧ ∀ y ∈ l, (Lit.int k y).wf = true := by
  obtain ⟨hl, m, hp⟩ := open_array hu h
  rw [hct] at hl
  have each : ∀ i, i < n → ∃ a, cs[i]? = some (.int k a) ∧ (Lit.int k a).wf = true := by
    intro i hi
    obtain ⟨y, hy, _⟩ := hp i hi
    rw [hc] at hy
    obtain ⟨a, h1, h2⟩ := cell_int he hy
    exact ⟨a, drop_one h1, h2⟩
  refine ⟨cs.map (fun v => match v with | .int _ a => a | _ => 0), ?_, by simp [hl], ?_⟩
  · apply List.ext_getElem?
    intro i
    rcases Nat.lt_or_ge i n with hi | hi
    · obtain ⟨a, h1, _⟩ := each i hi
      simp [h1]
    · rw [List.getElem?_eq_none (by omega), List.getElem?_eq_none (by simp; omega)]
  · intro y hy
    obtain ⟨v, hv, rfl⟩ := List.mem_map.1 hy
    obtain ⟨i, hi, hvi⟩ := List.getElem_of_mem hv
    obtain ⟨a, h1, h2⟩ := each i (by omega)
    rw [List.getElem?_eq_getElem hi] at h1
    injection h1 with h1
    rw [← hvi, h1]
    exact h2

/-- A slice of whole numbers. -/
structure Sl (w : World) (k : IntKind) (A : Option Addr) (n c : Nat) (xs : List Int) : Prop where
  rd : Rd w k A n xs
  le : n ≤ c
  nil : A = none → c = 0
  cap : c ≤ 140737488351232
  plain : 0 < c → ∃ b off, A = some ⟨b, off, none⟩
theorem open_sl {k : IntKind} (ht : P.underlying t = some (.slice e)) (he : P.underlying e = some (.int k)) (hc : P.cellsOf e = 1) (hb : 0 < P.bytesOf e)
    (h : DataW.trod enc P w 0 (fun _ => true) held fuel t cs = some x) (hx : Light P t x.1) : ∃ A n c xs, cs = [.slice A n c] ∧ Sl w k A n c xs := by
  rcases open_ints ht he hc h with ⟨rfl, rfl⟩ | ⟨a, len, cap, zs, rfl, _, hl, hm, hz, rfl, hcell, hw⟩
  · exact ⟨none, 0, 0, [], rfl, ⟨rfl, by omega, by simp, fun h => absurd h (by omega)⟩, by omega, fun _ => rfl, by omega, fun h => absurd h (by omega)⟩
  · simp only [if_true] at hz
    have hy : (cap) * P.bytesOf e ≤ reachBytes := by
      have := List.all_eq_true.1 hx ((((zs.take len).length + (zs.drop len).length)) * P.bytesOf e) (by simp [DataW.weights, ht, lits])
      simp only [List.length_take, List.length_drop, hz, decide_eq_true_eq] at this
      rwa [show min len cap + (cap - len) = cap by omega] at this
    have hy' : cap * P.bytesOf e ≤ 140737488351232 := hy
    obtain ⟨u, c⟩ := rd_of_row (w := w) (k := k) (a := some a) (len := len) (cap := cap) (zs := zs) hb hy' (.inr ⟨a, rfl, hl, hm, hz, hcell, hw⟩)
    refine ⟨some a, len, cap, _, rfl, u, c, fun h => (by cases h), Nat.le_trans (Nat.le_mul_of_pos_right _ hb) hy', fun h0 => ?_⟩
    have h0' := hcell 0 (by omega)
    obtain ⟨b, off, sp⟩ := a
    have hs : sp = none := by simpa [Addr.add] using World.cell?_spot h0'
    exact ⟨b, off, by rw [hs]⟩
/-- A value that is one row of cells. -/
theorem okWide_agg {r : Reach} {b0 : Nat} {v : Value} (hu : (∃ fs, P.underlying t = some (.struct fs)) ∨ ∃ k f, P.underlying t = some (.array k f)) (h : Value.okWide P w r b0 t v) : ∃ cs, v = .agg cs ∧ cs.size = P.cellsOf t := by
  rcases hu with ⟨fs, hu⟩ | ⟨k, f, hu⟩ <;>
  · simp only [Value.okWide, hu] at h
    obtain ⟨cs, h1, h2, _⟩ := h
    exact ⟨cs, h1, h2⟩
end
end Go.Proofs.YtgecfcdafbedaaaGreatDoor
