/- The document's table of guides: New, without, Len. -/
import Derived.Test.YtlmlklaleooliaaGMid
namespace Go.Proofs.Ytlmlklaleooliaa
open Go.RowKit
set_option linter.unusedSimpArgs false
set_option linter.unusedVariables false

def flatG (l : List Gd) : List Value := (l.map gdC).flatten
theorem flatG_snoc (l : List Gd) (e : Gd) : flatG (l ++ [e]) = flatG l ++ gdC e := by simp [flatG]
/-- The document's table in memory. -/
structure RefAt (base : Nat) (w : World) (M : Nat) (l : List Gd) : Prop where
  box : ∃ v, Blk w M 73 [v] ∧ w.ownsRow base 75 18 v l.length (flatG l)
  tags : ∀ e ∈ l, e.tag.length = 16
  small : l.length ≤ 8
theorem own_below {base : Nat} {w w' : World} {e : TypeId} {size n : Nat} {v : Value} {xs : List Value} (h : w.ownsRow base e size v n xs) (hB : Below w.heap.size w w') : w'.ownsRow base e size v n xs :=
  (Keeps.of_below (M := fun _ => False) hB).own h (fun _ _ hf => hf)
theorem RefAt.below {base : Nat} {w w' : World} {M : Nat} {l : List Gd} (h : RefAt base w M l) (hB : Below w.heap.size w w') : RefAt base w' M l := by
  obtain ⟨v, h1, h2⟩ := h.box
  exact ⟨⟨v, h1.below hB h1.lt, own_below h2 hB⟩, h.tags, h.small⟩
theorem RefAt.keepT {base : Nat} {w w' : World} {M T : Nat} {l : List Gd} {cs : List Value} (h : RefAt base w M l) (hk : Keeps (· = T) w w') (hT : Blk w T 33 cs) (hne : M ≠ T) : RefAt base w' M l := by
  obtain ⟨v, h1, h2⟩ := h.box
  refine ⟨⟨v, h1.keep hk hne, hk.own h2 (fun k hk' e => ?_)⟩, h.tags, h.small⟩
  subst e
  exact own_blk_ne h2 hT (by decide) hk'
theorem RefAt.lt {base : Nat} {w : World} {M : Nat} {l : List Gd} (h : RefAt base w M l) : M < w.heap.size := by
  obtain ⟨v, h1, _⟩ := h.box
  exact h1.lt
/-- A row of the list. -/
theorem own_rowAt {base : Nat} {w : World} {v : Value} {n : Nat} {l : List Gd} {k : Nat} {e : Gd} (h : w.ownsRow base 75 18 v n (flatG l)) (hn : n = l.length) (ht : ∀ e ∈ l, e.tag.length = 16) (hk : l[k]? = some e) :
    ∃ g c, v = .slice (some ⟨g, 0, none⟩) n c ∧ n ≤ c ∧ base ≤ g ∧ g < w.heap.size ∧ ∀ o, o = k * 18 → w.rangeAt g o (gdC e) := by
  have hkl : k < l.length := (List.getElem?_eq_some_iff.1 hk).1
  obtain ⟨A, c, rfl, hc, _, hr⟩ := own_slice h
  obtain ⟨g, rfl, hb, hg, ho⟩ := hr (by omega)
  refine ⟨g, c, rfl, hc, hb, hg, fun o ho' j u hu => ?_⟩
  have hj : j < 18 := by
    have := (List.getElem?_eq_some_iff.1 hu).1
    rwa [gdC_length (ht e (List.mem_of_getElem? hk))] at this
  have h1 := flat_at l ht k j e hk hj
  rw [hu] at h1
  have h2 := h.cells ho (18 * k + j) u h1
  rw [Addr.add_mid, Nat.zero_add] at h2
  subst ho'
  rwa [show 18 * k + j = k * 18 + j by omega] at h2
theorem info_one : (Try.prog.info? 75).map (fun i => (i.zero, i.size, i.bytes)) = some (some (.agg (gdC ⟨List.replicate 16 0, 0, 0⟩).toArray), 18, 24) := by kernel_rfl
theorem size_one : (Try.prog.info? 75).map (·.size) = some 18 := by kernel_rfl
theorem run_slice_one (e : Gd) (h : e.tag.length = 16) (W : World) :
    (Instr.buildSlice 71 1 #[(0, .agg (gdC e).toArray)]).run Try.prog W = .ok (.slice (some ⟨W.heap.size, 0, none⟩) 1 1) (W.alloc (.cells (gdC e).toArray 75)) := by
  obtain ⟨tag, s, k⟩ := e
  obtain ⟨x0, x1, x2, x3, x4, x5, x6, x7, x8, x9, x10, x11, x12, x13, x14, x15, rfl⟩ := list16 h
  kernel_rfl

theorem rlen_any (base M : Nat) (l : List Gd) (w : World) (h : RefAt base w M l) : Calls Try.prog 19 #[.pointer (some ⟨M, 0, none⟩)] w fun e w' => e = .returned (.int .i64 (l.length : Int)) ∧ w = w' := by
  obtain ⟨v, h1, h2⟩ := h.box
  obtain ⟨A, c, rfl, _⟩ := own_slice h2
  have hc := h1.cell 0
  simp only [List.getElem?_cons_zero] at hc
  clear h1 h2 h
  generalize l.length = n at *
  go_enter Try.func19, Try.ntmps19
  go_wp2_with fail
  go_ret
  exact ⟨rfl, rfl⟩
theorem rnew_any (w : World) : Calls Try.prog 14 #[] w fun e w' => e = .returned (.pointer (some ⟨w.heap.size, 0, none⟩)) ∧ w' = w.alloc (.cells #[.slice none 0 0] 73) := by
  go_enter Try.func14, Try.ntmps14
  go_wp2_with fail
  go_ret
  exact ⟨rfl, rfl⟩
theorem RefAt.new (w : World) (base : Nat) : RefAt base (w.alloc (.cells #[.slice none 0 0] 73)) w.heap.size [] :=
  ⟨⟨_, Blk.new w 73 [.slice none 0 0], own_nil _ _ _ _⟩, by simp, by simp⟩
/-- A new table's places. -/
def eight : List Gd := List.replicate 8 ⟨List.replicate 16 0, 0, 0⟩
set_option maxRecDepth 100000 in
theorem new_any (w : World) : Calls Try.prog 13 #[] w fun e w' => e = .returned (.pointer (some ⟨w.heap.size, 0, none⟩)) ∧ w' = w.alloc (.cells (tabC eight).toArray 33) := by
  have hb : ∀ W, (Instr.build 33 #[(1, .int .i64 1)]).run Try.prog W = .ok (.agg (tabC eight).toArray) W := fun W => by kernel_rfl
  obtain ⟨Z, hZ⟩ : ∃ Z, tabC eight = Z := ⟨_, rfl⟩
  rw [hZ] at hb ⊢
  have HB := Lib.hid hb
  clear hb hZ
  go_enter Try.func13, Try.ntmps13
  go_wp2_with (refine wpList_value (o := ⟨some 1, .build 33 _, _, _, _, _⟩) (v := .agg Z.toArray) (w' := w) rfl (by unfold execOp; simp only [Act.eval, Act.put]; simp [HB.out]) ?_)
  go_ret
  exact ⟨rfl, rfl⟩
theorem TabAt.new (w : World) : TabAt (w.alloc (.cells (tabC eight).toArray 33)) w.heap.size eight :=
  ⟨Blk.new w 33 _, rfl, fun e he => by rw [List.eq_of_mem_replicate he]; rfl⟩

theorem without_snoc (l : List Gd) (k : Nat) (e : Gd) (tag : List Int) (h : l[k]? = some e) : without (l.take (k + 1)) tag = without (l.take k) tag ++ (if e.tag = tag then [] else [e]) := by
  have : l.take (k + 1) = l.take k ++ [e] := by rw [List.take_add_one, h]; rfl
  rw [this, without, List.filter_append]
  congr 1
  by_cases he : e.tag = tag <;> simp [he]
theorem without_le (l : List Gd) (tag : List Int) : (without l tag).length ≤ l.length := List.length_filter_le _ _

theorem own_mono18 {w : World} {b1 b2 n size : Nat} {e : TypeId} {v : Value} {xs : List Value} (h : w.ownsRow b2 e size v n xs) (hb : b1 ≤ b2) : w.ownsRow b1 e size v n xs := by
  refine ⟨h.1, ?_⟩
  rcases h.2 with h0 | ⟨g, cap, cur, e1, e2, e3⟩
  · exact .inl h0
  · exact .inr ⟨g, cap, cur, e1, Nat.le_trans hb e2, e3⟩
theorem new_drew (w : World) : Below w.heap.size w w.drew := ⟨rfl, rfl, rfl, Nat.le_refl _, fun _ _ => rfl⟩
/-- What without leaves. -/
def WithoutRes (w : World) (l : List Gd) (tag : List Int) (e : Ending) (w' : World) : Prop :=
  ∃ v, e = .returned v ∧ w'.ownsRow w.heap.size 75 18 v (without l tag).length (flatG (without l tag)) ∧ Below w.heap.size w w'

set_option maxRecDepth 100000 in
set_option maxHeartbeats 4000000 in
theorem without_any (base M : Nat) (l : List Gd) (tag : List Int) (w : World) (h : RefAt base w M l) (hg : tag.length = 16) :
    Calls Try.prog 27 #[.pointer (some ⟨M, 0, none⟩), .agg (tag.map (Value.int .u8)).toArray] w (WithoutRes w l tag) := by
  obtain ⟨v0, hM, hO⟩ := h.box
  have hsm := h.small
  have htags := h.tags
  have hBn := new_belowG w (.cells (tag.map (Value.int .u8)).toArray 23)
  have hk := Blk.new w 23 (tag.map (Value.int .u8))
  have hM1 := hM.below hBn hM.lt
  have hO1 := own_below hO hBn
  have hsz : (Try.prog.info? 23).map (·.size) = some (tag.map (Value.int .u8)).length := by rw [List.length_map, hg]; kernel_rfl
  have hu : Try.prog.underlying 23 = some (.array 16 5) := Try.underlying23
  have huO : Try.prog.underlying 75 = some (.struct _) := Try.underlying75
  have hX := hk.range
  have heq := fun (e : Gd) (he : e.tag.length = 16) => tag_eq e.tag tag he hg
  obtain ⟨A0, c0, rfl, _⟩ := own_slice hO1
  have HM := Lib.hid hM1
  have HO := Lib.hid hO1
  have HX := Lib.hid hX
  have HXL := Lib.hid hk.lt
  have HSZ := Lib.hid hsz
  have HU := Lib.hid hu
  have HUO := Lib.hid huO
  have HEQ := Lib.hid heq
  have HTAGS := Lib.hid htags
  have HBN := Lib.hid hBn
  obtain ⟨n, hn⟩ : ∃ n, l.length = n := ⟨_, rfl⟩
  have HN := Lib.hid hn
  rw [hn] at hsm HO HM
  obtain ⟨L, hL⟩ : ∃ L, tag.map (Value.int .u8) = L := ⟨_, rfl⟩
  rw [hL] at HM HO HX HXL HSZ HEQ HBN ⊢
  clear hM hO h htags hBn hk hM1 hO1 hsz hu huO hX heq hn hL hg
  go_enter Try.func27, Try.ntmps27
  go_wp2_with fail
  generalize w.alloc (.cells L.toArray 23) = w1 at *
  go_loopw [5, 6] (fun v i wr => ∃ k : Nat, k ≤ n ∧ i = .int .i64 k ∧ wr.ownsRow w1.heap.size 75 18 v (without (l.take k) tag).length (flatG (without (l.take k) tag)) ∧ Below w1.heap.size w1 wr) (fun _ i _ => n - (intOf i).toNat)
  case atStart => exact ⟨0, Nat.zero_le _, rfl, own_nil _ _ _ _, Below.refl _ _⟩
  case round =>
    obtain ⟨k, hk, rfl, ho, hB⟩ := hrel
    obtain ⟨AA, cc, rfl, -⟩ := own_slice ho
    have hMc := ((HM.out.below hB HM.out.lt).cell 0)
    simp only [List.getElem?_cons_zero] at hMc
    by_cases hlt : k < n
    · obtain ⟨e, he⟩ : ∃ e, l[k]? = some e := ⟨_, List.getElem?_eq_getElem (by rw [HN.out]; exact hlt)⟩
      have hem := List.mem_of_getElem? he
      have hel := HTAGS.out e hem
      have heq := HEQ.out e hel
      obtain ⟨g, c1, ev, hc1, hbg, hg1, hrow⟩ := own_rowAt (own_below HO.out hB) HN.out.symm HTAGS.out he
      injection ev with ea _ ec
      subst ea ec
      have hXr : wr.rangeAt w.heap.size 0 L := fun j v hv => (hB.cell (p := ⟨w.heap.size, 0 + j, none⟩) HXL.out).trans (HX.out j v hv)
      have hrow1 : wr.rangeAt g (k * 18) (e.tag.map (Value.int .u8)) := fun j v hv => by
        have hj := (List.getElem?_eq_some_iff.1 hv).1
        refine hrow _ rfl j v ?_
        rw [gdC, List.getElem?_append_left hj]; exact hv
      have hsF : (Try.prog.info? 23).map (·.size) = some (e.tag.map (Value.int .u8)).length := by rw [List.length_map, hel]; kernel_rfl
      have hsO : (Try.prog.info? 75).map (·.size) = some (gdC e).length := by rw [gdC_length hel]; exact size_one
      have hone := gdC_one e
      have hbs := run_slice_one e hel
      have hyl := gdC_length hel
      have hsn := without_snoc l k e tag he
      have hlen : (without (l.take k) tag).length ≤ 8 := by have := without_le (l.take k) tag; rw [List.length_take] at this; omega
      have hfs := flatG_snoc (without (l.take k) tag) e
      have HROW : Hid (wr.drew.rangeAt g (k * 18) (gdC e)) := Lib.hid (hrow _ rfl)
      have hne : (e.tag == tag) = decide (e.tag = tag) := by rw [Bool.eq_iff_iff]; simp
      rw [hne] at heq
      have hif : without (l.take (k + 1)) tag = without (l.take k) tag ++ (if decide (e.tag = tag) = true then [] else [e]) := by
        rw [hsn]; by_cases h : e.tag = tag <;> simp [h]
      obtain ⟨q, hq⟩ : ∃ q, decide (e.tag = tag) = q := ⟨_, rfl⟩
      rw [hq] at heq hif
      generalize e.tag.map (Value.int .u8) = F at *
      obtain ⟨Y, hY⟩ : ∃ Y, gdC e = Y := ⟨_, rfl⟩
      rw [hY] at hsO hone hbs hyl hfs HROW
      have HHO : Hid (wr.drew.ownsRow w1.heap.size 75 18 _ _ _) := Lib.hid ho
      have HB : Hid (Below w1.heap.size w1 wr.drew) := Lib.hid (hB.trans ((new_drew wr).mono hB.size))
      have HSF := Lib.hid hsF
      have HSO := Lib.hid hsO
      have HONE := Lib.hid hone
      have HBS := Lib.hid hbs
      have HYL := Lib.hid hyl
      have HIF := Lib.hid hif
      have HFS := Lib.hid hfs
      have i0 : (0 : Int) ≤ (k : Int) := by omega
      have i1 : (k : Int) < (n : Int) := by omega
      have hadd : IntKind.i64.wrap ((k : Int) + 1) = (k : Int) + 1 := IntWalk.i64_in _ (by omega)
      clear ho hB hsF hsO hone hbs hyl hif hfs hY hq hne hsn hem hel he hrow
      go_wp2_with fail
      refine wp_region_noPanic ?_
      refine wp_region_held_drew (S := (fun w' => w'.cell? ⟨M, 0, none⟩ = some (.slice (some ⟨g, 0, none⟩) n c0) ∧ w'.rangeAt g (k * 18) F ∧ w'.rangeAt w.heap.size 0 L)) (by kernel_rfl) ?_ (fun hHeld => ?_)
      · ((try dsimp only); refine ⟨?_, ?_, ?_⟩ <;> (first | assumption | (go_keep; done)))
      refine wpAnyH_take (i := 0) (oi := ⟨some 16, _, _, _, _, _⟩) (v := ?_) rfl (by kernel_rfl) (by kernel_rfl) (by kernel_rfl) (fun _ _ _ h => False.elim h) (Or.inl ⟨by rfl, ?_⟩) (by assumption) ?_
      rotate_left
      · intro w hSw
        (try dsimp only at hSw)
        go_simp
        all_goals with_reducible rfl
      (try simp only [Act.put, List.setIfInBounds_toArray, List.set_cons_zero, List.set_cons_succ])
      refine wpAnyH_take (i := 1) (oi := ⟨some 17, _, _, _, _, _⟩) (v := ?_) rfl (by kernel_rfl) (by kernel_rfl) (by kernel_rfl) (fun _ _ _ h => False.elim h) (Or.inl ⟨by rfl, ?_⟩) (by assumption) ?_
      rotate_left
      · intro w hSw
        (try dsimp only at hSw)
        go_simp
        all_goals with_reducible rfl
      (try simp only [Act.put, List.setIfInBounds_toArray, List.set_cons_zero, List.set_cons_succ])
      refine wpAnyH_take (i := 2) (oi := ⟨some 18, _, _, _, _, _⟩) (v := ?_) rfl (by kernel_rfl) (by kernel_rfl) (by kernel_rfl) (fun _ _ _ h => False.elim h) (Or.inl ⟨by rfl, ?_⟩) (by assumption) ?_
      rotate_left
      · intro w hSw
        (try dsimp only at hSw)
        go_simp
        all_goals with_reducible rfl
      (try simp only [Act.put, List.setIfInBounds_toArray, List.set_cons_zero, List.set_cons_succ])
      refine wpAnyH_take (i := 3) (oi := ⟨some 19, _, _, _, _, _⟩) (v := ?_) rfl (by kernel_rfl) (by kernel_rfl) (by kernel_rfl) (fun _ _ _ h => False.elim h) (Or.inl ⟨by rfl, ?_⟩) (by assumption) ?_
      rotate_left
      · intro w hSw
        (try dsimp only at hSw)
        go_simp
        all_goals with_reducible rfl
      (try simp only [Act.put, List.setIfInBounds_toArray, List.set_cons_zero, List.set_cons_succ])
      refine wpAnyH_take (i := 4) (oi := ⟨some 20, _, _, _, _, _⟩) (v := ?_) rfl (by kernel_rfl) (by kernel_rfl) (by kernel_rfl) (fun _ _ _ h => False.elim h) (Or.inl ⟨by rfl, ?_⟩) (by assumption) ?_
      rotate_left
      · intro w hSw
        (try dsimp only at hSw)
        go_simp
        all_goals with_reducible rfl
      (try simp only [Act.put, List.setIfInBounds_toArray, List.set_cons_zero, List.set_cons_succ])
      refine wpAnyH_take (i := 5) (oi := ⟨some 21, _, _, _, _, _⟩) (v := ?_) rfl (by kernel_rfl) (by kernel_rfl) (by kernel_rfl) (fun _ _ _ h => False.elim h) (Or.inl ⟨by rfl, ?_⟩) (by assumption) ?_
      rotate_left
      · intro w hSw
        (try dsimp only at hSw)
        go_simp
        all_goals with_reducible rfl
      (try simp only [Act.put, List.setIfInBounds_toArray, List.set_cons_zero, List.set_cons_succ])
      refine wpAnyH_take (i := 6) (oi := ⟨some 22, _, _, _, _, _⟩) (v := ?_) rfl (by kernel_rfl) (by kernel_rfl) (by kernel_rfl) (fun _ _ _ h => False.elim h) (Or.inl ⟨by rfl, ?_⟩) (by assumption) ?_
      rotate_left
      · intro w hSw
        (try dsimp only at hSw)
        go_simp
        all_goals with_reducible rfl
      (try simp only [Act.put, List.setIfInBounds_toArray, List.set_cons_zero, List.set_cons_succ])
      refine wpAnyH_take (i := 7) (oi := ⟨some 23, _, _, _, _, _⟩) (v := .agg F.toArray) rfl (by kernel_rfl) (by kernel_rfl) (by kernel_rfl) (fun _ _ _ h => False.elim h) ?_ (by assumption) ?_
      · refine yieldsIf_load_mid ?_ 23 _ rfl g (k * 18) rfl F _ ?_ HU.out rfl HSF.out
        · rfl
        · (intro w hSw; (try dsimp only at hSw); go_split_ands; assumption)
      (try simp only [Act.put, List.setIfInBounds_toArray, List.set_cons_zero, List.set_cons_succ])
      refine wpAnyH_take (i := 8) (oi := ⟨some 24, _, _, _, _, _⟩) (v := .agg L.toArray) rfl (by kernel_rfl) (by kernel_rfl) (by kernel_rfl) (fun _ _ _ h => False.elim h) ?_ (by assumption) ?_
      · refine yieldsIf_load_mid ?_ 23 _ rfl w.heap.size 0 rfl L _ ?_ HU.out rfl HSZ.out
        · rfl
        · (intro w hSw; (try dsimp only at hSw); go_split_ands; assumption)
      (try simp only [Act.put, List.setIfInBounds_toArray, List.set_cons_zero, List.set_cons_succ])
      refine wpAnyH_take (i := 9) (oi := ⟨some 25, _, _, _, _, _⟩) (v := ?_) rfl (by kernel_rfl) (by kernel_rfl) (by kernel_rfl) (fun _ _ _ h => False.elim h) (Or.inl ⟨by rfl, ?_⟩) (by assumption) ?_
      rotate_left
      · intro w hSw
        (try dsimp only at hSw)
        go_simp
        all_goals with_reducible rfl
      (try simp only [Act.put, List.setIfInBounds_toArray, List.set_cons_zero, List.set_cons_succ])
      refine wpAnyH_done (by kernel_rfl) ?_ _
      refine NoPanic.normal ?_
      generalize wr.drew = w3 at *
      cases q
      · go_wp2_with (first
          | (refine wpList_load_mid rfl 75 _ rfl g (k * 18) rfl Y _ HROW.out HUO.out rfl HSO.out ?_)
          | (refine wpList_value (o := ⟨some 34, .buildSlice 71 1 _, _, _, _, _⟩) (v := .slice (some ⟨w3.heap.size, 0, none⟩) 1 1) (w' := w3.alloc (.cells Y.toArray 75)) rfl (by unfold execOp; simp only [Act.eval, Act.put]; simp [HBS.out]) ?_)
          | (at_builtin; refine append_one (W := w3) w1.heap.size rfl _ _ 71 75 (.agg (gdC ⟨List.replicate 16 0, 0, 0⟩).toArray) 18 24 rfl Try.underlying71 info_one rfl (by omega) (by omega) (.slice AA (without (l.take k) tag).length cc) (without (l.take k) tag).length (flatG (without (l.take k) tag)) Y rfl rfl HYL.out HONE.out HHO.out HB.out.size (by omega) ?_; intro v2 w2 ho2 hk2 _))
        go_roundw
        case rel =>
          refine ⟨k + 1, by omega, by go_num, ?_, below_keeps HB.out hk2 (Nat.le_refl _) (fun i hi => (own_base HHO.out i hi).1)⟩
          rw [HIF.out, if_neg (by simp), HFS.out, List.length_append]
          exact ho2
        case measure => simp [intOf]; omega
      · go_wp2_with fail
        go_roundw
        case rel =>
          refine ⟨k + 1, by omega, by go_num, ?_, HB.out⟩
          rw [HIF.out, if_pos rfl, List.append_nil]
          exact HHO.out
        case measure => simp [intOf]; omega
    · obtain rfl : k = n := by omega
      rw [List.take_of_length_le (by rw [HN.out]; exact Nat.le_refl _)] at *
      have HHO := Lib.hid ho
      have HB := Lib.hid (HBN.out.trans (hB.mono HBN.out.size))
      have HBZ := Lib.hid HBN.out.size
      clear ho hB
      go_wp2_with fail
      go_ret
      exact ⟨_, rfl, own_mono18 HHO.out HBZ.out, HB.out⟩
end Go.Proofs.Ytlmlklaleooliaa
