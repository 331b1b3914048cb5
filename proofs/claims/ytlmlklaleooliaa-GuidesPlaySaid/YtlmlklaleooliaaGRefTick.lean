/- The document's table of guides: Tick. -/
import Derived.Test.YtlmlklaleooliaaGRef
namespace Go.Proofs.Ytlmlklaleooliaa
open Go.RowKit
set_option linter.unusedSimpArgs false
set_option linter.unusedVariables false

/-- What is left of the first ones behind a tick. -/
def left (l : List Gd) (k : Nat) : List Gd := ((l.take k).map dec).filter Gd.on
theorem left_succ (l : List Gd) (k : Nat) (e : Gd) (h : l[k]? = some e) : left l (k + 1) = left l k ++ (if (dec e).on = true then [dec e] else []) := by
  have : l.take (k + 1) = l.take k ++ [e] := by rw [List.take_add_one, h]; rfl
  rw [left, this, List.map_append, List.filter_append]
  show _ = left l k ++ _
  rw [left]
  congr 1
  by_cases he : (dec e).on = true <;> simp [he]
theorem left_le (l : List Gd) (k : Nat) : (left l k).length ≤ l.length := by
  have h1 : (left l k).length ≤ ((l.take k).map dec).length := List.length_filter_le _ _
  rw [List.length_map, List.length_take] at h1
  omega
def zOne : List Value := gdC ⟨List.replicate 16 0, 0, 0⟩

set_option maxRecDepth 100000 in
set_option maxHeartbeats 4000000 in
theorem rtick_any (base M : Nat) (l : List Gd) (w : World) (h : RefAt base w M l) (hb : base ≤ w.heap.size) (hok : ∀ e ∈ l, 1 ≤ e.ticks ∧ e.ticks ≤ 256) :
    Calls Try.prog 15 #[.pointer (some ⟨M, 0, none⟩)] w fun e w' => e = .returned (.tuple #[]) ∧ RefAt base w' M ((l.map dec).filter Gd.on) ∧ Keeps (fun i => i = M ∨ w.heap.size ≤ i) w w' := by
  obtain ⟨v0, hM, hO⟩ := h.box
  have hsm := h.small
  have htags := h.tags
  have huO : Try.prog.underlying 75 = some (.struct _) := Try.underlying75
  obtain ⟨A0, c0, rfl, _⟩ := own_slice hO
  have HM := Lib.hid hM
  have HO := Lib.hid hO
  have HUO := Lib.hid huO
  have HTAGS := Lib.hid htags
  have HOK := Lib.hid hok
  have HB0 := Lib.hid hb
  have HSM := Lib.hid hsm
  have hMc := hM.cell 0
  simp only [List.getElem?_cons_zero] at hMc
  obtain ⟨n, hn⟩ : ∃ n, l.length = n := ⟨_, rfl⟩
  have HN := Lib.hid hn
  rw [hn] at hsm HO HM hMc
  obtain ⟨Z, hZ⟩ : ∃ Z, zOne = Z := ⟨_, rfl⟩
  have HZ := Lib.hid hZ
  have HZL : Hid (Z.length = 18) := Lib.hid (by rw [← hZ]; rfl)
  clear hM hO h htags huO hn hok hb hMc hZ
  go_enter Try.func15, Try.ntmps15
  go_wp2_with fail
  go_loopw [2, 3] (fun v i wr => ∃ k : Nat, k ≤ n ∧ i = .int .i64 k ∧ wr.ownsRow w.heap.size 75 18 v (left l k).length (flatG (left l k)) ∧ Below w.heap.size w wr) (fun _ i _ => n - (intOf i).toNat)
  case atStart => exact ⟨0, Nat.zero_le _, rfl, own_nil _ _ _ _, Below.refl _ _⟩
  case round =>
    obtain ⟨k, hk, rfl, ho, hB⟩ := hrel
    obtain ⟨AA, cc, rfl, -⟩ := own_slice ho
    have hMr := HM.out.below hB HM.out.lt
    have hMc := hMr.cell 0
    simp only [List.getElem?_cons_zero] at hMc
    have hMf := hMr.free 0
    by_cases hlt : k < n
    · obtain ⟨e, he⟩ : ∃ e, l[k]? = some e := ⟨_, List.getElem?_eq_getElem (by rw [HN.out]; exact hlt)⟩
      have hem := List.mem_of_getElem? he
      have hel := HTAGS.out e hem
      have hnat := HOK.out e hem
      obtain ⟨g, c1, ev, hc1, hbg, hg1, hrow⟩ := own_rowAt (own_below HO.out hB) HN.out.symm HTAGS.out he
      injection ev with ea _ ec
      subst ea ec
      have HROW : Hid (wr.rangeAt g (k * 18) (gdC e)) := Lib.hid (hrow _ rfl)
      have hsO : (Try.prog.info? 75).map (·.size) = some (gdC e).length := by rw [gdC_length hel]; exact size_one
      have hsO2 : (Try.prog.info? 75).map (·.size) = some (gdC (dec e)).length := by rw [gdC_length (show (dec e).tag.length = 16 from hel)]; exact size_one
      have hyl : (gdC e).length = Z.length := by rw [gdC_length hel, HZL.out]
      have hszY : (Try.prog.info? 75).map (·.size) = some (gdC e).toArray.size := by simpa [gdC_length hel] using size_one
      have hy1 : (gdC e).toArray.all (·.oneCell') = true := all_oneCell_toArray (gdC_one e)
      have ht3 : (gdC e)[17]? = some (.int .u32 e.ticks) := by
        rw [gdC, List.getElem?_append_right (by simp [hel])]; simp [hel]
      have hset := gd_set17 e (e.ticks - 1) hel
      have hbs := run_slice_one (dec e) hel
      have hdl : (gdC (dec e)).length = 18 := gdC_length hel
      have hd1 := gdC_one (dec e)
      have hls := left_succ l k e he
      have hlen : (left l k).length ≤ 8 := Nat.le_trans (left_le l k) HSM.out
      have hfs := flatG_snoc (left l k) (dec e)
      have hon : (dec e).on = decide (0 < e.ticks - 1) := rfl
      rw [hon] at hls
      have hded : (⟨e.tag, e.spot, e.ticks - 1⟩ : Gd) = dec e := rfl
      rw [hded] at hset
      obtain ⟨t, ht⟩ : ∃ t, e.ticks = t := ⟨_, rfl⟩
      rw [ht] at ht3 hset hls hnat
      obtain ⟨Y, hY⟩ : ∃ Y, gdC e = Y := ⟨_, rfl⟩
      rw [hY] at HROW hsO hyl hszY hy1 ht3 hset
      obtain ⟨D, hD⟩ : ∃ D, gdC (dec e) = D := ⟨_, rfl⟩
      rw [hD] at hsO2 hbs hdl hd1 hfs hset
      have hsub : IntKind.u32.wrap (t - 1) = t - 1 := IntWalk.u32_in _ (by omega)
      have HK4 : Hid (Blk (wr.alloc (.cells Z.toArray 75)) wr.heap.size 75 Z) := Lib.hid (Blk.new wr 75 Z)
      have HK5 : Hid (Blk ((wr.alloc (.cells Z.toArray 75)).setCells wr.heap.size 0 Y) wr.heap.size 75 Y) := Lib.hid (by
        have := Blk.setCells Y 0 _ _ HK4.out (by omega)
        rwa [splice_whole _ _ hyl] at this)
      have HB5 : Hid (Below w.heap.size w ((wr.alloc (.cells Z.toArray 75)).setCells wr.heap.size 0 Y)) := Lib.hid (below_keeps (hB.alloc hB.size _) (Keeps.setCells (g := wr.heap.size) Y 0 _) (Nat.le_refl _) (fun i hi => by subst hi; exact hB.size))
      have HO5 : Hid (((wr.alloc (.cells Z.toArray 75)).setCells wr.heap.size 0 Y).ownsRow w.heap.size 75 18 (.slice AA (left l k).length cc) (left l k).length (flatG (left l k))) := Lib.hid ((Keeps.setCells (g := wr.heap.size) Y 0 _).own (ho.alloc _) (fun i hi e => by
        have e' : i = wr.heap.size := e
        have := (own_base ho i hi).2
        omega))
      have HTH : Hid ((wr.alloc (.cells Z.toArray 75)).there wr.heap.size 0 Y.toArray.size) := Lib.hid (HK4.out.there 0 _ (by simp [hyl]))
      obtain ⟨w5, hw5⟩ : ∃ w5, (wr.alloc (.cells Z.toArray 75)).setCells wr.heap.size 0 Y = w5 := ⟨_, rfl⟩
      rw [hw5] at HK5 HB5 HO5
      have HW5 := Lib.hid hw5
      have h17 : w5.cell? ⟨wr.heap.size, 17, none⟩ = some (.int .u32 t) := (HK5.out.cell 17).trans ht3
      have h17f : w5.frozen? ⟨wr.heap.size, 17, none⟩ = false := HK5.out.free 17
      have HK6 : Hid (Blk (w5.setCell ⟨wr.heap.size, 17, none⟩ (.int .u32 (t - 1))) wr.heap.size 75 D) := Lib.hid (by
        have := HK5.out.put 17 (.int .u32 (t - 1))
        rwa [hset] at this)
      have HB6 : Hid (Below w.heap.size w (w5.setCell ⟨wr.heap.size, 17, none⟩ (.int .u32 (t - 1)))) := Lib.hid (below_keeps HB5.out (Keeps.set1 w5 ⟨wr.heap.size, 17, none⟩ _) (Nat.le_refl _) (fun i hi => by subst hi; exact hB.size))
      have HO6 : Hid ((w5.setCell ⟨wr.heap.size, 17, none⟩ (.int .u32 (t - 1))).ownsRow w.heap.size 75 18 (.slice AA (left l k).length cc) (left l k).length (flatG (left l k))) := Lib.hid ((Keeps.set1 w5 ⟨wr.heap.size, 17, none⟩ _).own HO5.out (fun i hi e => by
        have e' : i = wr.heap.size := e
        have := (own_base ho i hi).2
        omega))
      have HSZY := Lib.hid hszY
      have HY1 := Lib.hid hy1
      have HSO := Lib.hid hsO
      have HSO2 := Lib.hid hsO2
      have HBS := Lib.hid hbs
      have HDL := Lib.hid hdl
      have HD1 := Lib.hid hd1
      have HLS := Lib.hid hls
      have HFS := Lib.hid hfs
      have i0 : (0 : Int) ≤ (k : Int) := by omega
      have i1 : (k : Int) < (n : Int) := by omega
      have hadd : IntKind.i64.wrap ((k : Int) + 1) = (k : Int) + 1 := IntWalk.i64_in _ (by omega)
      clear ho hB hMf hMr hsO hsO2 hyl hszY hy1 hbs hdl hd1 hls hfs hset hem hel he hrow ht hY hD hon hded ht3 HK4 hw5
      by_cases hpos : 0 < t - 1
      · go_wp2_with (first
          | (refine wpList_load_mid rfl 75 _ rfl g (k * 18) rfl Y _ HROW.out HUO.out rfl HSO.out ?_)
          | (refine wpList_value (o := ⟨some 4, .alloc 75, _, _, _, _⟩) (v := .pointer (some ⟨wr.heap.size, 0, none⟩)) (w' := wr.alloc (.cells zOne.toArray 75)) rfl (by kernel_rfl) ?_; rw [HZ.out])
          | (refine wpList_store_mid rfl 75 _ _ rfl wr.heap.size 0 Y.toArray rfl rfl HTH.out HSZY.out HY1.out ?_; rw [show Y.toArray.toList = Y from rfl, HW5.out])
          | (refine wpList_load_mid rfl 75 _ rfl wr.heap.size 0 rfl D _ HK6.out.range HUO.out rfl HSO2.out ?_)
          | (refine wpList_value (o := ⟨some 30, .buildSlice 71 1 _, _, _, _, _⟩) (v := .slice (some ⟨(w5.setCell ⟨wr.heap.size, 17, none⟩ (.int .u32 (t - 1))).heap.size, 0, none⟩) 1 1) (w' := (w5.setCell ⟨wr.heap.size, 17, none⟩ (.int .u32 (t - 1))).alloc (.cells D.toArray 75)) rfl (by unfold execOp; simp only [Act.eval, Act.put]; simp [HBS.out]) ?_)
          | (at_builtin; refine append_one (W := w5.setCell ⟨wr.heap.size, 17, none⟩ (.int .u32 (t - 1))) w.heap.size rfl _ _ 71 75 (.agg (gdC ⟨List.replicate 16 0, 0, 0⟩).toArray) 18 24 rfl Try.underlying71 info_one rfl (by omega) (by omega) (.slice AA (left l k).length cc) (left l k).length (flatG (left l k)) D rfl rfl HDL.out HD1.out HO6.out HB6.out.size (by omega) ?_; intro v7 w7 ho7 hk7 _))
        have HO7 := Lib.hid ho7
        have HB7 : Hid (Below w.heap.size w w7) := Lib.hid (below_keeps HB6.out hk7 (Nat.le_refl _) (fun i hi => (own_base HO6.out i hi).1))
        clear ho7 hk7
        go_wp2_with fail
        go_roundw
        case rel =>
          refine ⟨k + 1, by omega, by go_num, ?_, HB7.out⟩
          rw [HLS.out, if_pos (decide_eq_true hpos), HFS.out, List.length_append]
          exact HO7.out
        case measure => simp [intOf]; omega
      · go_wp2_with (first
          | (refine wpList_load_mid rfl 75 _ rfl g (k * 18) rfl Y _ HROW.out HUO.out rfl HSO.out ?_)
          | (refine wpList_value (o := ⟨some 4, .alloc 75, _, _, _, _⟩) (v := .pointer (some ⟨wr.heap.size, 0, none⟩)) (w' := wr.alloc (.cells zOne.toArray 75)) rfl (by kernel_rfl) ?_; rw [HZ.out])
          | (refine wpList_store_mid rfl 75 _ _ rfl wr.heap.size 0 Y.toArray rfl rfl HTH.out HSZY.out HY1.out ?_; rw [show Y.toArray.toList = Y from rfl, HW5.out]))
        go_roundw
        case rel =>
          refine ⟨k + 1, by omega, by go_num, ?_, HB6.out⟩
          rw [HLS.out, if_neg (by simpa using hpos), List.append_nil]
          exact HO6.out
        case measure => simp [intOf]; omega
    · obtain rfl : k = n := by omega
      have hall : left l k = (l.map dec).filter Gd.on := by rw [left, List.take_of_length_le (by rw [HN.out]; exact Nat.le_refl _)]
      have hll := Nat.le_trans (left_le l k) HSM.out
      have htg : ∀ e ∈ left l k, e.tag.length = 16 := fun e he => by
        obtain ⟨x, hx, rfl⟩ := List.mem_map.1 (List.mem_filter.1 he).1
        exact HTAGS.out x (List.mem_of_mem_take hx)
      have HALL := Lib.hid hall
      have HKM := Lib.hid hMr
      have HO2 := Lib.hid ho
      have HB2 := Lib.hid hB
      have HLL := Lib.hid hll
      have HTG := Lib.hid htg
      have HML := Lib.hid HM.out.lt
      clear ho hB hMr hall hll htg
      go_wp2_with fail
      go_end0
      rw [← HALL.out]
      refine ⟨rfl, ⟨⟨_, HKM.out.put 0 _, ?_⟩, HTG.out, HLL.out⟩, (Keeps.of_below (M := fun i => i = M ∨ w.heap.size ≤ i) HB2.out).setCell (.inl (.inl rfl)) _⟩
      refine own_mono18 ((Keeps.set1 wr ⟨M, 0, none⟩ _).own HO2.out (fun i hi e => ?_)) HB0.out
      subst e
      have h1 := (own_base HO2.out _ hi).1
      have h2 := HML.out
      omega
end Go.Proofs.Ytlmlklaleooliaa
