/- The document's table of guides: Put, Room, Get. -/
import Derived.Test.YtlmlklaleooliaaGRef
namespace Go.Proofs.Ytlmlklaleooliaa
open Go.RowKit
set_option linter.unusedSimpArgs false
set_option linter.unusedVariables false

/-- What the document's Room tells. -/
def rroomN (l : List Gd) (tag : List Int) : Int := if (without l tag).length < 8 then 256 else 0
set_option maxRecDepth 100000 in
set_option maxHeartbeats 1000000 in
theorem rroom_any (base M : Nat) (l : List Gd) (tag : List Int) (w : World) (h : RefAt base w M l) (hg : tag.length = 16) :
    Calls Try.prog 18 #[.pointer (some ⟨M, 0, none⟩), .agg (tag.map (Value.int .u8)).toArray] w fun e w' => e = .returned (.int .u32 (rroomN l tag)) ∧ Below w.heap.size w w' := by
  have hBn := new_belowG w (.cells (tag.map (Value.int .u8)).toArray 23)
  have hwo := without_any base M l tag _ (h.below hBn) hg
  have hX := (Blk.new w 23 (tag.map (Value.int .u8))).range
  have hsz : (Try.prog.info? 23).map (·.size) = some (tag.map (Value.int .u8)).length := by rw [List.length_map, hg]; kernel_rfl
  have hu : Try.prog.underlying 23 = some (.array 16 5) := Try.underlying23
  obtain ⟨L, hL⟩ : ∃ L, tag.map (Value.int .u8) = L := ⟨_, rfl⟩
  rw [hL] at hBn hwo hX hsz ⊢
  have HWO := Lib.hid hwo
  have HX := Lib.hid hX
  have HSZ := Lib.hid hsz
  have HU := Lib.hid hu
  have HBN := Lib.hid hBn
  clear hBn hwo hX hsz hu hL h hg
  go_enter Try.func18, Try.ntmps18
  go_wp2_with (refine wpList_load_mid rfl 23 _ rfl w.heap.size 0 rfl L _ HX.out HU.out rfl HSZ.out ?_)
  refine HWO.out.mono ?_; rintro e w2 ⟨v, rfl, ho, hB2⟩
  have HB2 := Lib.hid (HBN.out.trans (hB2.mono HBN.out.size))
  obtain ⟨A2, c2, rfl, -⟩ := own_slice ho
  clear hB2 ho
  obtain ⟨m, hm0⟩ : ∃ m, (without l tag).length = m := ⟨_, rfl⟩
  have HM := Lib.hid hm0
  rw [hm0]
  clear hm0
  by_cases hm : m < 8
  · have hm' : ¬ (8 : Int) ≤ (m : Int) := by omega
    go_wp2_with fail
    go_ret
    exact ⟨ret_int (by rw [rroomN, HM.out, if_pos (by omega)]), HB2.out⟩
  · have hm' : (8 : Int) ≤ (m : Int) := by omega
    go_wp2_with fail
    go_ret
    exact ⟨ret_int (by rw [rroomN, HM.out, if_neg (by omega)]), HB2.out⟩

/-- What the document's Put tells, and what it leaves. -/
def RPutIs (l : List Gd) (tag : List Int) (s k E : Int) (l' : List Gd) : Prop :=
  ((s = 0 ∨ k < 1 ∨ 256 < k) ∧ E = 1 ∧ l' = l) ∨
  (¬ (s = 0 ∨ k < 1 ∨ 256 < k) ∧ E = 6 ∧ l' = l ∧ ¬ (without l tag).length < 8) ∨
  (¬ (s = 0 ∨ k < 1 ∨ 256 < k) ∧ E = 0 ∧ (without l tag).length < 8 ∧ l' = without l tag ++ [⟨tag, s, k⟩])

set_option maxRecDepth 100000 in
set_option maxHeartbeats 4000000 in
theorem rput_any (base M : Nat) (l : List Gd) (tag : List Int) (s k : Int) (w : World) (h : RefAt base w M l) (hb : base ≤ w.heap.size) (hg : tag.length = 16) :
    Calls Try.prog 16 #[.pointer (some ⟨M, 0, none⟩), .agg (tag.map (Value.int .u8)).toArray, .int .u32 s, .int .u32 k] w fun e w' => ∃ E l', e = .returned (.int .i64 E) ∧ RPutIs l tag s k E l' ∧ RefAt base w' M l' ∧ Keeps (fun i => i = M ∨ w.heap.size ≤ i) w w' := by
  have hBn := new_belowG w (.cells (tag.map (Value.int .u8)).toArray 23)
  have hr1 := h.below hBn
  have hwo := without_any base M l tag _ hr1 hg
  have hk := Blk.new w 23 (tag.map (Value.int .u8))
  have hX := hk.range
  have hXl := hk.lt
  have hsz : (Try.prog.info? 23).map (·.size) = some (tag.map (Value.int .u8)).length := by rw [List.length_map, hg]; kernel_rfl
  have hu : Try.prog.underlying 23 = some (.array 16 5) := Try.underlying23
  have hbld := run_build_one tag s k hg
  have hbs := run_slice_one ⟨tag, s, k⟩ hg
  have hyl := gdC_length (e := ⟨tag, s, k⟩) hg
  have hy1 := gdC_one ⟨tag, s, k⟩
  have hfs := flatG_snoc (without l tag) ⟨tag, s, k⟩
  have hMl := h.lt
  have HTG : Hid (∀ e ∈ without l tag ++ [(⟨tag, s, k⟩ : Gd)], e.tag.length = 16) := Lib.hid (fun e he => by
    rcases List.mem_append.1 he with he | he
    · exact h.tags e (List.mem_filter.1 he).1
    · obtain rfl : e = ⟨tag, s, k⟩ := by simpa using he
      exact hg)
  have HSM := Lib.hid h.small
  obtain ⟨L, hL⟩ : ∃ L, tag.map (Value.int .u8) = L := ⟨_, rfl⟩
  rw [hL] at hBn hwo hX hXl hsz hbld hr1 ⊢
  obtain ⟨Y, hY⟩ : ∃ Y, gdC ⟨tag, s, k⟩ = Y := ⟨_, rfl⟩
  rw [hY] at hbld hbs hyl hy1 hfs
  have HWO := Lib.hid hwo
  have HX := Lib.hid hX
  have HSZ := Lib.hid hsz
  have HU := Lib.hid hu
  have HBN := Lib.hid hBn
  have HBLD := Lib.hid hbld
  have HBS := Lib.hid hbs
  have HYL := Lib.hid hyl
  have HY1 := Lib.hid hy1
  have HFS := Lib.hid hfs
  have HR1 := Lib.hid hr1
  have HXL := Lib.hid hXl
  have HMl := Lib.hid hMl
  have HB0 := Lib.hid hb
  clear hBn hr1 hwo hk hX hXl hsz hu hbld hbs hyl hy1 hfs hMl hL hY h hg hb
  by_cases hbad : s = 0 ∨ k < 1 ∨ 256 < k
  · have hor : (s = 0) ∨ (¬ s = 0 ∧ k < 1) ∨ (¬ s = 0 ∧ ¬ k < 1 ∧ 256 < k) := by omega
    clear hbad
    rcases hor with rfl | ⟨h1, h2⟩ | ⟨h1, h2, h3⟩
    all_goals
      go_enter Try.func16, Try.ntmps16
      go_wp2_with fail
      go_ret
      first
        | exact ⟨1, l, rfl, .inl ⟨by omega, rfl, rfl⟩, HR1.out, Keeps.of_below HBN.out⟩
        | exact ⟨1, rfl, l, .inl ⟨by omega, rfl, rfl⟩, HR1.out, Keeps.of_below HBN.out⟩
  · have h1 : ¬ s = 0 := by omega
    have h2 : ¬ k < 1 := by omega
    have h3 : ¬ 256 < k := by omega
    have b1 : (s == 0) = false := by simpa using h1
    have b2 : decide (k < 1) = false := decide_eq_false h2
    have b3 : decide (256 < k) = false := decide_eq_false h3
    clear hbad
    go_enter Try.func16, Try.ntmps16
    go_wp2_with (refine wpList_load_mid rfl 23 _ rfl w.heap.size 0 rfl L _ HX.out HU.out rfl HSZ.out ?_)
    refine HWO.out.mono ?_; rintro e w2 ⟨v, rfl, ho, hB2⟩
    have HB2 := Lib.hid (HBN.out.trans (hB2.mono HBN.out.size))
    have HR2 := Lib.hid (HR1.out.below hB2)
    have hX2 : w2.rangeAt w.heap.size 0 L := fun j v hv => (hB2.cell (p := ⟨w.heap.size, 0 + j, none⟩) HXL.out).trans (HX.out j v hv)
    have HX2 := Lib.hid hX2
    have HO := Lib.hid ho
    have HBZ := Lib.hid hB2.size
    obtain ⟨A2, c2, rfl, -⟩ := own_slice ho
    have hlm : (without l tag).length ≤ 8 := Nat.le_trans (without_le l tag) HSM.out
    clear hB2 ho hX2
    obtain ⟨m, hm⟩ : ∃ m, (without l tag).length = m := ⟨_, rfl⟩
    have HM := Lib.hid hm
    rw [hm] at HO hlm ⊢
    clear hm
    by_cases hm8 : m < 8
    · have hm' : ¬ (8 : Int) ≤ (m : Int) := by omega
      obtain ⟨v0, hM2, _⟩ := HR2.out.box
      have HM2 := Lib.hid hM2
      clear hM2
      go_wp2_with (first
        | (refine wpList_load_mid rfl 23 _ rfl w.heap.size 0 rfl L _ HX2.out HU.out rfl HSZ.out ?_)
        | (refine wpList_value (o := ⟨some 31, .build 75 _, _, _, _, _⟩) (v := .agg Y.toArray) (w' := w2) rfl (by unfold execOp; simp only [Act.eval, Act.put]; simp [HBLD.out]) ?_)
        | (refine wpList_value (o := ⟨some 32, .buildSlice 71 1 _, _, _, _, _⟩) (v := .slice (some ⟨w2.heap.size, 0, none⟩) 1 1) (w' := w2.alloc (.cells Y.toArray 75)) rfl (by unfold execOp; simp only [Act.eval, Act.put]; simp [HBS.out]) ?_)
        | (at_builtin; refine append_one (W := w2) (w.alloc (.cells L.toArray 23)).heap.size rfl _ _ 71 75 (.agg (gdC ⟨List.replicate 16 0, 0, 0⟩).toArray) 18 24 rfl Try.underlying71 info_one rfl (by omega) (by omega) (.slice A2 m c2) m (flatG (without l tag)) Y rfl rfl HYL.out HY1.out HO.out HBZ.out (by omega) ?_
           intro v3 w3 ho3 hk3 hb3
           obtain ⟨A3, c3, rfl, -⟩ := own_slice ho3
           have hne3 : ¬ (Value.slice A2 m c2).ownBlock = some M := fun e => by
             have h1 := (own_base HO.out M e).1
             have h2 := HMl.out
             have h3 := HBN.out.size
             omega
           have hM3 : Blk w3 M 73 [v0] := HM2.out.keep hk3 hne3
           have hMc := hM3.cell 0
           simp only [List.getElem?_cons_zero] at hMc
           have hMf := hM3.free 0
           have HO3 := Lib.hid ho3
           have HK3 := Lib.hid hk3
           have HM3 := Lib.hid hM3
           clear ho3 hk3 hb3 hne3 hM3))
      go_ret
      have hnew : Keeps (fun i => i = M ∨ w.heap.size ≤ i) w w3 := ((Keeps.of_below (M := fun i => i = M ∨ w.heap.size ≤ i) HB2.out).trans (HK3.out.mono (fun i hi => .inr (Nat.le_trans HBN.out.size (own_base HO.out i hi).1))))
      refine ⟨0, without l tag ++ [⟨tag, s, k⟩], rfl, .inr (.inr ⟨by omega, rfl, by rw [HM.out]; exact hm8, rfl⟩), ⟨⟨.slice A3 (m + 1) c3, ?_, ?_⟩, HTG.out, by rw [List.length_append, HM.out]; exact hm8⟩, hnew.setCell (.inl (.inl rfl)) _⟩
      · exact HM3.out.put 0 _
      · have hrow := own_mono18 HO3.out (Nat.le_trans HB0.out HBN.out.size)
        rw [HFS.out, List.length_append, HM.out]
        refine (Keeps.set1 w3 ⟨M, 0, none⟩ _).own hrow (fun i hi e => ?_)
        subst e
        have h1 := (own_base HO3.out _ hi).1
        have h2 := HMl.out
        have h3 := HBN.out.size
        simp at h1
        omega
    · have hm' : (8 : Int) ≤ (m : Int) := by omega
      go_wp2_with fail
      go_ret
      exact ⟨6, l, rfl, .inr (.inl ⟨by omega, rfl, rfl, by rw [HM.out]; exact hm8⟩), HR2.out, Keeps.of_below HB2.out⟩

/-- What the document's Get tells. -/
def RGetIs (l : List Gd) (tag : List Int) (s E : Int) : Prop := (E = 0 ∧ ∃ x ∈ l, x.tag = tag ∧ s = x.spot) ∨ (E = 7 ∧ s = 0 ∧ ¬ ∃ x ∈ l, x.tag = tag)

set_option maxRecDepth 100000 in
set_option maxHeartbeats 4000000 in
theorem rget_any (base M : Nat) (l : List Gd) (tag : List Int) (w : World) (h : RefAt base w M l) (hg : tag.length = 16) :
    Calls Try.prog 17 #[.pointer (some ⟨M, 0, none⟩), .agg (tag.map (Value.int .u8)).toArray] w fun e w' => ∃ s E, e = .returned (.tuple #[.int .u32 s, .int .i64 E]) ∧ RGetIs l tag s E ∧ Below w.heap.size w w' := by
  obtain ⟨v0, hM, hO⟩ := h.box
  have hsm := h.small
  have htags := h.tags
  have hBn := new_belowG w (.cells (tag.map (Value.int .u8)).toArray 23)
  have hk := Blk.new w 23 (tag.map (Value.int .u8))
  have hM1 := hM.below hBn hM.lt
  have hO1 := own_below hO hBn
  have hsz : (Try.prog.info? 23).map (·.size) = some (tag.map (Value.int .u8)).length := by rw [List.length_map, hg]; kernel_rfl
  have hu : Try.prog.underlying 23 = some (.array 16 5) := Try.underlying23
  have hX := hk.range
  have heq := fun (e : Gd) (he : e.tag.length = 16) => tag_eq e.tag tag he hg
  obtain ⟨A0, c0, rfl, _⟩ := own_slice hO1
  have HM := Lib.hid hM1
  have HO := Lib.hid hO1
  have HX := Lib.hid hX
  have HXL := Lib.hid hk.lt
  have HSZ := Lib.hid hsz
  have HU := Lib.hid hu
  have HEQ := Lib.hid heq
  have HTAGS := Lib.hid htags
  have HBN := Lib.hid hBn
  obtain ⟨n, hn⟩ : ∃ n, l.length = n := ⟨_, rfl⟩
  have HN := Lib.hid hn
  rw [hn] at hsm HO
  rw [hn] at HM
  obtain ⟨L, hL⟩ : ∃ L, tag.map (Value.int .u8) = L := ⟨_, rfl⟩
  rw [hL] at HM HO HX HXL HSZ HEQ HBN ⊢
  clear hM hO h htags hBn hk hM1 hO1 hsz hu hX heq hn hL hg
  go_enter Try.func17, Try.ntmps17
  go_wp2_with fail
  generalize w.alloc (.cells L.toArray 23) = w1 at *
  go_loopw [6] (fun i wr => ∃ k : Nat, k ≤ n ∧ i = .int .i64 k ∧ (∀ j e, j < k → l[j]? = some e → ¬ e.tag = tag) ∧ Below w1.heap.size w1 wr) (fun i _ => n - (intOf i).toNat)
  case atStart => exact ⟨0, Nat.zero_le _, rfl, fun j e hj _ => absurd hj (by omega), Below.refl _ _⟩
  case round =>
    obtain ⟨k, hk, rfl, hpre, hB⟩ := hrel
    have hMc := ((HM.out.below hB HM.out.lt).cell 0)
    simp only [List.getElem?_cons_zero] at hMc
    by_cases hlt : k < n
    · obtain ⟨e, he⟩ : ∃ e, l[k]? = some e := ⟨_, List.getElem?_eq_getElem (by rw [HN.out]; exact hlt)⟩
      have hem := List.mem_of_getElem? he
      have hel := HTAGS.out e hem
      have heq := HEQ.out e hel
      obtain ⟨g, c1, ev, hc1, hbg, hg1, hrow⟩ := own_rowAt (own_below HO.out hB) HN.out.symm HTAGS.out he
      injection ev with ea _ ec
      subst ea ec
      have hXr : wr.rangeAt w.heap.size 0 L := fun j v hv => (hB.cell (p := ⟨w.heap.size, 0 + j, none⟩) HXL.out).trans (HX.out j v hv)
      have hrow1 : wr.rangeAt g (k * 18) (e.tag.map (Value.int .u8)) := fun j v hv => by
        have hj := (List.getElem?_eq_some_iff.1 hv).1
        refine hrow _ rfl j v ?_
        rw [gdC, List.getElem?_append_left hj]; exact hv
      have hspot : wr.drew.cell? ⟨g, k * 18 + 16, none⟩ = some (.int .u32 e.spot) := by
        refine hrow _ rfl 16 _ ?_
        rw [gdC, List.getElem?_append_right (by simp [hel])]; simp [hel]
      have hsF : (Try.prog.info? 23).map (·.size) = some (e.tag.map (Value.int .u8)).length := by rw [List.length_map, hel]; kernel_rfl
      have hne : (e.tag == tag) = decide (e.tag = tag) := by rw [Bool.eq_iff_iff]; simp
      rw [hne] at heq
      have HE := Lib.hid he
      obtain ⟨q, hq⟩ : ∃ q, decide (e.tag = tag) = q := ⟨_, rfl⟩
      have HQ := Lib.hid hq
      rw [hq] at heq
      generalize e.tag.map (Value.int .u8) = F at *
      have HB := Lib.hid (hB.trans ((new_drew wr).mono hB.size))
      have HSF := Lib.hid hsF
      have HPRE := Lib.hid hpre
      have HSP := Lib.hid hspot
      have i0 : (0 : Int) ≤ (k : Int) := by omega
      have i1 : (k : Int) < (n : Int) := by omega
      have hadd : IntKind.i64.wrap ((k : Int) + 1) = (k : Int) + 1 := IntWalk.i64_in _ (by omega)
      clear hB hsF hq hne hel he hrow hpre hspot
      go_wp2_with fail
      refine wp_region_noPanic ?_
      refine wp_region_held_drew (S := (fun w' => w'.cell? ⟨M, 0, none⟩ = some (.slice (some ⟨g, 0, none⟩) n c0) ∧ w'.rangeAt g (k * 18) F ∧ w'.rangeAt w.heap.size 0 L)) (by kernel_rfl) ?_ (fun hHeld => ?_)
      · ((try dsimp only); refine ⟨?_, ?_, ?_⟩ <;> (first | assumption | (go_keep; done)))
      refine wpAnyH_take (i := 0) (oi := ⟨some 16, _, _, _, _, _⟩) (v := ?_) rfl (by kernel_rfl) (by kernel_rfl) (by kernel_rfl) (fun _ _ _ h => False.elim h) (Or.inl ⟨by rfl, ?_⟩) (by assumption) ?_
      rotate_left
      · intro w hSw
        (try dsimp only at hSw)
        go_simp
        all_goals with_reducible rfl
      (try simp only [Act.put, List.setIfInBounds_toArray, List.set_cons_zero, List.set_cons_succ])
      refine wpAnyH_take (i := 1) (oi := ⟨some 17, _, _, _, _, _⟩) (v := ?_) rfl (by kernel_rfl) (by kernel_rfl) (by kernel_rfl) (fun _ _ _ h => False.elim h) (Or.inl ⟨by rfl, ?_⟩) (by assumption) ?_
      rotate_left
      · intro w hSw
        (try dsimp only at hSw)
        go_simp
        all_goals with_reducible rfl
      (try simp only [Act.put, List.setIfInBounds_toArray, List.set_cons_zero, List.set_cons_succ])
      refine wpAnyH_take (i := 2) (oi := ⟨some 18, _, _, _, _, _⟩) (v := ?_) rfl (by kernel_rfl) (by kernel_rfl) (by kernel_rfl) (fun _ _ _ h => False.elim h) (Or.inl ⟨by rfl, ?_⟩) (by assumption) ?_
      rotate_left
      · intro w hSw
        (try dsimp only at hSw)
        go_simp
        all_goals with_reducible rfl
      (try simp only [Act.put, List.setIfInBounds_toArray, List.set_cons_zero, List.set_cons_succ])
      refine wpAnyH_take (i := 3) (oi := ⟨some 19, _, _, _, _, _⟩) (v := ?_) rfl (by kernel_rfl) (by kernel_rfl) (by kernel_rfl) (fun _ _ _ h => False.elim h) (Or.inl ⟨by rfl, ?_⟩) (by assumption) ?_
      rotate_left
      · intro w hSw
        (try dsimp only at hSw)
        go_simp
        all_goals with_reducible rfl
      (try simp only [Act.put, List.setIfInBounds_toArray, List.set_cons_zero, List.set_cons_succ])
      refine wpAnyH_take (i := 4) (oi := ⟨some 20, _, _, _, _, _⟩) (v := ?_) rfl (by kernel_rfl) (by kernel_rfl) (by kernel_rfl) (fun _ _ _ h => False.elim h) (Or.inl ⟨by rfl, ?_⟩) (by assumption) ?_
      rotate_left
      · intro w hSw
        (try dsimp only at hSw)
        go_simp
        all_goals with_reducible rfl
      (try simp only [Act.put, List.setIfInBounds_toArray, List.set_cons_zero, List.set_cons_succ])
      refine wpAnyH_take (i := 5) (oi := ⟨some 21, _, _, _, _, _⟩) (v := ?_) rfl (by kernel_rfl) (by kernel_rfl) (by kernel_rfl) (fun _ _ _ h => False.elim h) (Or.inl ⟨by rfl, ?_⟩) (by assumption) ?_
      rotate_left
      · intro w hSw
        (try dsimp only at hSw)
        go_simp
        all_goals with_reducible rfl
      (try simp only [Act.put, List.setIfInBounds_toArray, List.set_cons_zero, List.set_cons_succ])
      refine wpAnyH_take (i := 6) (oi := ⟨some 22, _, _, _, _, _⟩) (v := ?_) rfl (by kernel_rfl) (by kernel_rfl) (by kernel_rfl) (fun _ _ _ h => False.elim h) (Or.inl ⟨by rfl, ?_⟩) (by assumption) ?_
      rotate_left
      · intro w hSw
        (try dsimp only at hSw)
        go_simp
        all_goals with_reducible rfl
      (try simp only [Act.put, List.setIfInBounds_toArray, List.set_cons_zero, List.set_cons_succ])
      refine wpAnyH_take (i := 7) (oi := ⟨some 23, _, _, _, _, _⟩) (v := .agg F.toArray) rfl (by kernel_rfl) (by kernel_rfl) (by kernel_rfl) (fun _ _ _ h => False.elim h) ?_ (by assumption) ?_
      · refine yieldsIf_load_mid ?_ 23 _ rfl g (k * 18) rfl F _ ?_ HU.out rfl HSF.out
        · rfl
        · (intro w hSw; (try dsimp only at hSw); go_split_ands; assumption)
      (try simp only [Act.put, List.setIfInBounds_toArray, List.set_cons_zero, List.set_cons_succ])
      refine wpAnyH_take (i := 8) (oi := ⟨some 24, _, _, _, _, _⟩) (v := .agg L.toArray) rfl (by kernel_rfl) (by kernel_rfl) (by kernel_rfl) (fun _ _ _ h => False.elim h) ?_ (by assumption) ?_
      · refine yieldsIf_load_mid ?_ 23 _ rfl w.heap.size 0 rfl L _ ?_ HU.out rfl HSZ.out
        · rfl
        · (intro w hSw; (try dsimp only at hSw); go_split_ands; assumption)
      (try simp only [Act.put, List.setIfInBounds_toArray, List.set_cons_zero, List.set_cons_succ])
      refine wpAnyH_take (i := 9) (oi := ⟨some 25, _, _, _, _, _⟩) (v := ?_) rfl (by kernel_rfl) (by kernel_rfl) (by kernel_rfl) (fun _ _ _ h => False.elim h) (Or.inl ⟨by rfl, ?_⟩) (by assumption) ?_
      rotate_left
      · intro w hSw
        (try dsimp only at hSw)
        go_simp
        all_goals with_reducible rfl
      (try simp only [Act.put, List.setIfInBounds_toArray, List.set_cons_zero, List.set_cons_succ])
      refine wpAnyH_done (by kernel_rfl) ?_ _
      refine NoPanic.normal ?_
      have hspot := HSP.out
      cases q
      · go_wp2_with fail
        go_roundw
        case rel =>
          refine ⟨k + 1, by omega, by go_num, fun j e' hj hje => ?_, HB.out⟩
          rcases Nat.lt_or_ge j k with h | h
          · exact HPRE.out j e' h hje
          · obtain rfl : j = k := by omega
            rw [HE.out] at hje
            injection hje with hje
            subst hje
            exact of_decide_eq_false HQ.out
        case measure => simp [intOf]; omega
      · go_wp2_with fail
        go_ret2
        exact ⟨_, _, rfl, .inl ⟨rfl, e, List.mem_of_getElem? HE.out, of_decide_eq_true HQ.out, rfl⟩, HBN.out.trans (HB.out.mono HBN.out.size)⟩
    · obtain rfl : k = n := by omega
      have HPRE := Lib.hid hpre
      have HB := Lib.hid hB
      clear hpre hB
      go_wp2_with fail
      go_ret2
      refine ⟨_, _, rfl, .inr ⟨rfl, rfl, ?_⟩, HBN.out.trans (HB.out.mono HBN.out.size)⟩
      rintro ⟨x, hx, hxt⟩
      obtain ⟨j, hj, rfl⟩ := List.getElem_of_mem hx
      exact HPRE.out j _ (by have := HN.out; omega) (List.getElem?_eq_getElem hj) hxt
end Go.Proofs.Ytlmlklaleooliaa
