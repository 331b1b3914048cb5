/- A table of guides: Tick; A table of guides, in plain lists: one who is in it, as long as its ticks last. -/
import Derived.Test.YtadpgodmkodgdaaXRGuidesRoom43
import Derived.Test.YtadpgodmkodgdaaXRGuidesRoom42
namespace Go.Proofs.Ytadpgodmkodgdaa
open Go.RowKit
set_option linter.unusedSimpArgs false
set_option linter.unusedVariables false

/-- A tick has come by the first places. -/
def tk (a : List Gd) (k : Nat) : List Gd := (a.take k).map tickI ++ a.drop k
theorem tk_zero (a : List Gd) : tk a 0 = a := by simp [tk]
theorem tk_all (a : List Gd) (k : Nat) (h : a.length = k) : tk a k = a.map tickI := by
  subst h
  simp [tk]
theorem tk_at {a : List Gd} {k : Nat} {e : Gd} (h : a[k]? = some e) : (tk a k)[k]? = some e := by
  have hl : k < a.length := (List.getElem?_eq_some_iff.1 h).1
  rw [tk, List.getElem?_append_right (by simp; omega)]
  rw [List.length_map, List.length_take, Nat.min_eq_left (by omega), Nat.sub_self, List.getElem?_drop]
  simpa using h
theorem tk_succ {a : List Gd} {k : Nat} {e : Gd} (h : a[k]? = some e) : (tk a k).set k (tickI e) = tk a (k + 1) := by
  have hl : k < a.length := (List.getElem?_eq_some_iff.1 h).1
  have he : a[k] = e := (List.getElem?_eq_some_iff.1 h).2
  rw [tk, List.set_append, if_neg (by simp; omega)]
  rw [List.length_map, List.length_take, Nat.min_eq_left (by omega), Nat.sub_self, List.drop_eq_getElem_cons hl, List.set_cons_zero, tk]
  have : a.take (k + 1) = a.take k ++ [e] := by rw [List.take_add_one, h]; rfl
  rw [this]
  simp
theorem slice_place (T k : Nat) (h : k < 8) (W : World) : (Instr.sliceAt 61 (.pointer (some ⟨T, 0, none⟩)) (some (.int .i64 (k : Int))) (some (.int .i64 ((k : Int) + 1))) none).run Try.prog W = .ok (.slice (some ⟨T, k * 18, none⟩) 1 (8 - k)) W := by
  rcases (show k = 0 ∨ k = 1 ∨ k = 2 ∨ k = 3 ∨ k = 4 ∨ k = 5 ∨ k = 6 ∨ k = 7 by omega) with rfl | rfl | rfl | rfl | rfl | rfl | rfl | rfl <;> kernel_rfl
theorem zero_gd (W : World) : (zeroValue 60).run Try.prog W = .ok (.agg (gdC zGd).toArray) W := by kernel_rfl

theorem exec_slice {P : Program} {o : Oper} {a : Act} {w w' : World} {v : Value} {t : TypeId} {x : Operand} {lo hi mx : Option Operand} (ho : o.op = .slice t x lo hi mx)
    (h : (Instr.sliceAt t (a.eval x) (lo.map a.eval) (hi.map a.eval) (mx.map a.eval)).run P w = .ok v w') : (execOp a.eval o).run P w = .ok (.value v) w' := by
  unfold execOp
  simp only [ho, Sem.run_bind, Sem.run_pure, h, Result.andThen_ok]
set_option maxRecDepth 100000 in
set_option maxHeartbeats 4000000 in
theorem tick_tab (T : Nat) (a : List Gd) (w : World) (hT : TabAt w T a) (hok : TabOk a) :
    Calls Try.prog 10 #[.pointer (some ⟨T, 0, none⟩)] w fun e w' => e = .returned (.tuple #[]) ∧ TabAt w' T (a.map tickI) ∧ Keeps (· = T) w w' := by
  have HT := Lib.hid hT
  have HOK := Lib.hid hok
  have HAL := Lib.hid hT.len
  clear hT hok
  go_enter Try.func10, Try.ntmps10
  go_wp2_with fail
  refine (there_yes HT.out).mono ?_; rintro e w1 ⟨rfl, rfl⟩
  go_wp2_with fail
  go_loopw [6] (fun i wr => ∃ k : Nat, k ≤ 8 ∧ i = .int .i64 k ∧ TabAt wr T (tk a k) ∧ Keeps (· = T) w wr) (fun i _ => 8 - (intOf i).toNat)
  case atStart => exact ⟨0, Nat.zero_le _, rfl, by rw [tk_zero]; exact HT.out, Keeps.refl _ _⟩
  case round =>
    obtain ⟨k, hk, rfl, hTk, hK⟩ := hrel
    by_cases hlt : k < 8
    · obtain ⟨e, he⟩ : ∃ e, a[k]? = some e := ⟨_, List.getElem?_eq_getElem (by rw [HAL.out]; exact hlt)⟩
      have hem := List.mem_of_getElem? he
      have hel := HT.out.tags e hem
      have hnat := HOK.out e hem
      have hat := tk_at he
      have hc : wr.cell? ⟨T, k * 18 + 17, none⟩ = some (.int .u32 e.ticks) := by
        refine hTk.row' hat rfl 17 _ ?_
        rw [gdC, List.getElem?_append_right (by simp [hel])]; simp [hel]
      have hfz : wr.frozen? ⟨T, k * 18 + 17, none⟩ = false := hTk.blk.free _
      have HS := Lib.hid (tk_succ he)
      have HTK := Lib.hid hTk
      have HK := Lib.hid hK
      have HAT := Lib.hid hat
      have i0 : (0 : Int) ≤ (k : Int) := by omega
      have i1 : (k : Int) < 8 := by omega
      have hadd : IntKind.i64.wrap ((k : Int) + 1) = (k : Int) + 1 := IntWalk.i64_in _ (by omega)
      by_cases h0 : e.ticks = 0
      · have HS1 : Hid (tk a (k + 1) = tk a k) := Lib.hid (by
          rw [← HS.out, show tickI e = e by simp [tickI, h0]]
          obtain ⟨hl, he2⟩ := List.getElem?_eq_some_iff.1 hat
          rw [← he2]
          exact List.set_getElem_self hl)
        rw [h0] at hc
        clear hTk hK hat hel hem he hnat h0
        go_wp2_with fail
        go_roundw
        case rel => exact ⟨k + 1, by omega, by go_num, by rw [HS1.out]; exact HTK.out, HK.out⟩
        case measure => simp [intOf]; omega
      · by_cases h1 : e.ticks = 1
        · have hcl : ∀ ty, (Builtin.clear_ #[66] ty #[.slice (some ⟨T, k * 18, none⟩) 1 (8 - k)]).run Try.prog wr = .ok (.tuple #[]) (wr.setCells T (k * 18) (gdC zGd)) := fun ty =>
            run_clear_one wr 66 60 ty (.agg (gdC zGd).toArray) Try.underlying66 zero_gd (by simpa [Value.cells] using gdC_one zGd) T (k * 18) (8 - k) (hTk.there hlt rfl (by simp [Value.cells, gdC, zGd]))
          have hsl := fun W => slice_place T k hlt W
          have HTF : Hid (TabAt (wr.setCells T (k * 18) (gdC zGd)) T (tk a (k + 1))) := Lib.hid (by
            have := hTk.put (e' := zGd) (o := k * 18) hat (by rfl) rfl
            rw [show zGd = tickI e by simp [tickI, h1, zGd], HS.out] at this
            rwa [show tickI e = zGd by simp [tickI, h1, zGd]] at this)
          have HKF : Hid (Keeps (· = T) w (wr.setCells T (k * 18) (gdC zGd))) := Lib.hid (hK.trans (Keeps.setCells _ _ _))
          rw [h1] at hc
          obtain ⟨Z, hZ⟩ : ∃ Z, gdC zGd = Z := ⟨_, rfl⟩
          rw [hZ] at hcl HTF HKF
          have HSL := Lib.hid hsl
          clear hTk hK hat hel hem he hnat h0 h1 hZ hsl
          go_wp2_with (first
            | (refine wpList_value (o := ⟨some 38, .slice 61 _ _ _ _, _, _, _, _⟩) (v := .slice (some ⟨T, k * 18, none⟩) 1 (8 - k)) (w' := wr) rfl (exec_slice rfl (HSL.out wr)) ?_)
            | (simp only [hcl]))
          go_roundw
          case rel => exact ⟨k + 1, by omega, by go_num, HTF.out, HKF.out⟩
          case measure => simp [intOf]; omega
        · obtain ⟨t, ht⟩ : ∃ t, e.ticks = t := ⟨_, rfl⟩
          rw [ht] at hc h0 h1 hnat
          have hti : tickI e = ⟨e.tag, e.spot, t - 1⟩ := by simp [tickI, ht, h0, h1]
          have hsub : IntKind.u32.wrap (t - 1) = t - 1 := IntWalk.u32_in _ (by omega)
          have HTF : Hid (TabAt (wr.drew.setCell ⟨T, k * 18 + 17, none⟩ (.int .u32 (t - 1))) T (tk a (k + 1))) := Lib.hid (by
            have hd := hTk.drew
            have := hd.ticked hat (t - 1) (o := k * 18 + 17) rfl
            rwa [← hti, HS.out] at this)
          have HKF : Hid (Keeps (· = T) w (wr.drew.setCell ⟨T, k * 18 + 17, none⟩ (.int .u32 (t - 1)))) := Lib.hid (hK.drew.setCell (.inl rfl) _)
          clear hTk hK hat hel hem he hnat ht hti
          go_wp2_with fail
          go_region_with (fail)
          go_wp2_with fail
          go_roundw
          case rel => exact ⟨k + 1, by omega, by go_num, HTF.out, HKF.out⟩
          case measure => simp [intOf]; omega
    · obtain rfl : k = 8 := by omega
      rw [tk_all a 8 HAL.out] at hTk
      have HTK := Lib.hid hTk
      have HK := Lib.hid hK
      clear hTk hK
      go_wp2_with fail
      go_end0
      exact ⟨rfl, HTK.out, HK.out⟩
end Go.Proofs.Ytadpgodmkodgdaa

namespace Go.Proofs.Ytadpgodmkodgdaa
set_option linter.unusedSimpArgs false
set_option linter.unusedVariables false

/-- The table holds one, so long (none of it: not at all). -/
structure Hold (a : List Gd) (tag : List Int) (sp left : Int) : Prop where
  len : a.length = 8
  nat : ∀ e ∈ a, 0 ≤ e.ticks ∧ e.ticks ≤ 256
  own : ∀ (i j : Nat) (e x : Gd), a[i]? = some e → a[j]? = some x → isTag tag e = true → isTag tag x = true → i = j
  is : 0 < left → ∃ e ∈ a, isTag tag e = true ∧ e.spot = sp ∧ e.ticks = left
  no : left ≤ 0 → ∀ e ∈ a, isTag tag e = false
theorem isTag_iff {tag : List Int} {e : Gd} : isTag tag e = true ↔ 0 < e.ticks ∧ e.tag = tag := by simp [isTag, Gd.on]
theorem hold_new (tag : List Int) : Hold eightG tag 0 0 := by
  have h0 : ∀ e ∈ eightG, isTag tag e = false := fun e he => by rw [List.eq_of_mem_replicate he]; simp [isTag, Gd.on]
  refine ⟨rfl, fun e he => ?_, fun i j e x hi hj he => ?_, fun h => absurd h (by omega), fun _ => h0⟩
  · rw [List.eq_of_mem_replicate he]; simp
  · rw [h0 e (List.mem_of_getElem? hi)] at he; cases he
theorem Hold.get {a : List Gd} {tag : List Int} {sp left s E : Int} (h : Hold a tag sp left) (hg : GetIs a tag s E) : (0 < left → E = 0 ∧ s = sp) ∧ (left ≤ 0 → E = 7 ∧ s = 0) := by
  constructor
  · intro hl
    obtain ⟨e, he, ht, hs, _⟩ := h.is hl
    rcases hg with ⟨h1, x, hx, hxt, h2⟩ | ⟨_, _, hno⟩
    · obtain ⟨i, hi⟩ := List.mem_iff_getElem?.1 he
      obtain ⟨j, hj⟩ := List.mem_iff_getElem?.1 hx
      have := h.own i j e x hi hj ht hxt
      subst this
      rw [hi] at hj
      injection hj with hj
      subst hj
      exact ⟨h1, h2.trans hs⟩
    · exact absurd ⟨e, he, ht⟩ hno
  · intro hl
    rcases hg with ⟨_, x, hx, hxt, _⟩ | ⟨h1, h2, _⟩
    · rw [h.no hl x hx] at hxt; cases hxt
    · exact ⟨h1, h2⟩
theorem tickI_ticks (e : Gd) (h : 0 ≤ e.ticks) : (tickI e).ticks = if e.ticks ≤ 1 then 0 else e.ticks - 1 := by
  unfold tickI
  split
  · rename_i h1; rw [if_pos (by omega)]; exact h1
  · split
    · rename_i h1 h2; rw [if_pos (by omega)]
    · rename_i h1 h2; rw [if_neg (by omega)]
theorem tickI_tag (e : Gd) (h : 1 < e.ticks) : (tickI e).tag = e.tag ∧ (tickI e).spot = e.spot := by
  unfold tickI
  rw [if_neg (by omega), if_neg (by omega)]
  exact ⟨rfl, rfl⟩
theorem tickI_is {tag : List Int} {e : Gd} (h0 : 0 ≤ e.ticks) (h : isTag tag (tickI e) = true) : isTag tag e = true ∧ 1 < e.ticks := by
  rw [isTag_iff] at h
  have ht := tickI_ticks e h0
  by_cases h1 : e.ticks ≤ 1
  · rw [if_pos h1] at ht; omega
  · obtain ⟨h2, _⟩ := tickI_tag e (by omega)
    rw [isTag_iff]
    exact ⟨⟨by omega, h2 ▸ h.2⟩, by omega⟩
theorem Hold.tick {a : List Gd} {tag : List Int} {sp left : Int} (h : Hold a tag sp left) : Hold (a.map tickI) tag sp (if 0 < left then left - 1 else left) := by
  have hat : ∀ (i : Nat) (e : Gd), (a.map tickI)[i]? = some e → ∃ x, a[i]? = some x ∧ e = tickI x := fun i e hi => by
    rw [List.getElem?_map, Option.map_eq_some_iff] at hi
    obtain ⟨x, hx, he⟩ := hi
    exact ⟨x, hx, he.symm⟩
  have hnat : ∀ e ∈ a.map tickI, 0 ≤ e.ticks ∧ e.ticks ≤ 256 := fun e he => by
    obtain ⟨x, hx, rfl⟩ := List.mem_map.1 he
    have h1 := h.nat x hx
    have h2 := tickI_ticks x h1.1
    split at h2 <;> omega
  refine ⟨by rw [List.length_map, h.len], hnat, fun i j e x hi hj he hx => ?_, fun hl => ?_, fun hl e he => ?_⟩
  · obtain ⟨e0, h1, rfl⟩ := hat i e hi
    obtain ⟨x0, h2, rfl⟩ := hat j x hj
    exact h.own i j e0 x0 h1 h2 (tickI_is (h.nat _ (List.mem_of_getElem? h1)).1 he).1 (tickI_is (h.nat _ (List.mem_of_getElem? h2)).1 hx).1
  · have h0 : 0 < left := by split at hl <;> omega
    rw [if_pos h0] at hl ⊢
    obtain ⟨e, he, ht, hs, hk⟩ := h.is h0
    have h1 := tickI_ticks e (h.nat e he).1
    rw [if_neg (by omega)] at h1
    obtain ⟨h2, h3⟩ := tickI_tag e (by omega)
    exact ⟨tickI e, List.mem_map_of_mem he, by rw [isTag_iff]; exact ⟨by omega, h2.trans (isTag_iff.1 ht).2⟩, h3.trans hs, by omega⟩
  · obtain ⟨x, hx, rfl⟩ := List.mem_map.1 he
    cases hb : isTag tag (tickI x) with
    | false => rfl
    | true =>
      exfalso
      obtain ⟨h1, h2⟩ := tickI_is (h.nat x hx).1 hb
      by_cases h0 : 0 < left
      · rw [if_pos h0] at hl
        obtain ⟨e, he', ht, hs, hk⟩ := h.is h0
        obtain ⟨i, hi⟩ := List.mem_iff_getElem?.1 he'
        obtain ⟨j, hj⟩ := List.mem_iff_getElem?.1 hx
        have := h.own i j e x hi hj ht h1
        subst this
        rw [hi] at hj
        injection hj with hj
        subst hj
        omega
      · rw [h.no (by omega) x hx] at h1; cases h1
theorem Hold.other {a a' : List Gd} {tag tag2 : List Int} {sp left s k E : Int} (h : Hold a tag sp left) (hp : PutIs a tag2 s k E a') (hne : tag2 ≠ tag) : Hold a' tag sp left := by
  rcases hp with ⟨_, _, rfl⟩ | ⟨_, _, rfl, _⟩ | ⟨hv, _, i, x, hx, hor, rfl⟩
  · exact h
  · exact h
  · have hxi : isTag tag x = false := by
      cases hb : isTag tag x with
      | false => rfl
      | true =>
        have h1 := isTag_iff.1 hb
        rcases hor with h2 | ⟨h2, _⟩
        · exact absurd ((isTag_iff.1 h2).2.symm.trans h1.2) hne
        · simp [free] at h2; omega
    have hnew : isTag tag ⟨tag2, s, k⟩ = false := by
      cases hb : isTag tag ⟨tag2, s, k⟩ with
      | false => rfl
      | true => exact absurd (isTag_iff.1 hb).2 hne
    have hil : i < a.length := (List.getElem?_eq_some_iff.1 hx).1
    have hat : ∀ (j : Nat) (e : Gd), (a.set i ⟨tag2, s, k⟩)[j]? = some e → isTag tag e = true → a[j]? = some e ∧ j ≠ i := fun j e hj he => by
      by_cases hji : j = i
      · subst hji
        rw [List.getElem?_set_self hil] at hj
        injection hj with hj
        rw [← hj, hnew] at he; cases he
      · rw [List.getElem?_set_ne (fun e => hji e.symm)] at hj
        exact ⟨hj, hji⟩
    refine ⟨by rw [List.length_set, h.len], fun e he => ?_, fun p q e y hp hq he hy => h.own p q e y (hat p e hp he).1 (hat q y hq hy).1 he hy, fun hl => ?_, fun hl e he => ?_⟩
    · rcases List.mem_or_eq_of_mem_set he with h1 | h1
      · exact h.nat e h1
      · subst h1; show 0 ≤ k ∧ k ≤ 256; omega
    · obtain ⟨e, he, ht, hs, hk⟩ := h.is hl
      obtain ⟨j, hj⟩ := List.mem_iff_getElem?.1 he
      have hji : j ≠ i := fun e1 => by
        subst e1
        rw [hj] at hx; injection hx with hx; subst hx
        rw [hxi] at ht; cases ht
      exact ⟨e, List.mem_of_getElem? ((List.getElem?_set_ne (fun e => hji e.symm)).trans hj), ht, hs, hk⟩
    · cases hb : isTag tag e with
      | false => rfl
      | true =>
        obtain ⟨j, hj⟩ := List.mem_iff_getElem?.1 he
        have := h.no hl e (List.mem_of_getElem? (hat j e hj hb).1)
        rw [hb] at this; cases this
/-- Who is put, where it can be. -/
theorem Hold.same {a a' : List Gd} {tag : List Int} {sp left s k E : Int} (h : Hold a tag sp left) (hp : PutIs a tag s k E a') (hroom : (∃ e ∈ a, isTag tag e = true) ∨ ∃ e ∈ a, free e = true) :
    (¬ (s = 0 ∨ k < 1 ∨ 256 < k) → E = 0 ∧ Hold a' tag s k) ∧ ((s = 0 ∨ k < 1 ∨ 256 < k) → E = 1 ∧ a' = a) := by
  rcases hp with ⟨hv, h1, rfl⟩ | ⟨hv, _, _, hno⟩ | ⟨hv, h1, i, x, hx, hor, rfl⟩
  · exact ⟨fun hn => absurd hv hn, fun _ => ⟨h1, rfl⟩⟩
  · exact absurd hroom hno
  · refine ⟨fun _ => ⟨h1, ?_⟩, fun hn => absurd hn hv⟩
    have hil : i < a.length := (List.getElem?_eq_some_iff.1 hx).1
    have hnew : isTag tag ⟨tag, s, k⟩ = true := by rw [isTag_iff]; exact ⟨by show 0 < k; omega, rfl⟩
    have hat : ∀ (j : Nat) (e : Gd), (a.set i ⟨tag, s, k⟩)[j]? = some e → isTag tag e = true → j = i := fun j e hj he => by
      by_cases hji : j = i
      · exact hji
      · rw [List.getElem?_set_ne (fun e => hji e.symm)] at hj
        rcases hor with h2 | ⟨h2, h3⟩
        · exact h.own j i e x hj hx he h2
        · exact absurd ⟨e, List.mem_of_getElem? hj, he⟩ h3
    refine ⟨by rw [List.length_set, h.len], fun e he => ?_, fun p q e y hp hq he hy => (hat p e hp he).trans (hat q y hq hy).symm, fun hl => ⟨⟨tag, s, k⟩, List.mem_of_getElem? (List.getElem?_set_self hil), hnew, rfl, rfl⟩, fun hl => by omega⟩
    rcases List.mem_or_eq_of_mem_set he with h1 | h1
    · exact h.nat e h1
    · subst h1; show 0 ≤ k ∧ k ≤ 256; omega
theorem eight_free : ∃ e ∈ eightG, free e = true := ⟨⟨List.replicate 16 0, 0, 0⟩, by simp [eightG], by simp [free]⟩
/-- Nobody else is in it. -/
def Only (a : List Gd) (tag : List Int) : Prop := ∀ e ∈ a, e.tag = tag ∨ e.ticks = 0
theorem only_new (tag : List Int) : Only eightG tag := fun e he => by rw [List.eq_of_mem_replicate he]; exact .inr rfl
theorem Only.put {a a' : List Gd} {tag : List Int} {s k E : Int} (h : Only a tag) (hp : PutIs a tag s k E a') : Only a' tag := by
  rcases hp with ⟨_, _, rfl⟩ | ⟨_, _, rfl, _⟩ | ⟨_, _, i, x, _, _, rfl⟩
  · exact h
  · exact h
  · intro e he
    rcases List.mem_or_eq_of_mem_set he with h1 | h1
    · exact h e h1
    · subst h1; exact .inl rfl
theorem Only.tick {a : List Gd} {tag : List Int} (h : Only a tag) (hn : ∀ e ∈ a, 0 ≤ e.ticks) : Only (a.map tickI) tag := fun e he => by
  obtain ⟨x, hx, rfl⟩ := List.mem_map.1 he
  have h1 := tickI_ticks x (hn x hx)
  by_cases h2 : x.ticks ≤ 1
  · rw [if_pos h2] at h1; exact .inr h1
  · rcases h x hx with h3 | h3
    · exact .inl ((tickI_tag x (by omega)).1.trans h3)
    · omega
theorem Only.none {a : List Gd} {tag : List Int} {sp left : Int} (h : Only a tag) (hh : Hold a tag sp left) (hl : left ≤ 0) : taken a = [] := by
  rw [taken, List.filter_eq_nil_iff]
  intro e he hon
  rcases h e he with h1 | h1
  · have := hh.no hl e he
    rw [Bool.eq_false_iff] at this
    exact this (isTag_iff.2 ⟨by simpa [Gd.on] using hon, h1⟩)
  · simp [Gd.on, h1] at hon
end Go.Proofs.Ytadpgodmkodgdaa
