/- The walks over judges.pairs, which yields nothing where there is no world, and over the judgements that go through it. -/
import Derived.Test.YtjkcagfacegjkaaGreatWNot
import Derived.RangeFuncNested
import Derived.RangeFuncBound
import Derived.RangeFuncCalls
import Derived.RangeFuncLeaves
import Derived.Shelf.Abstract
import Derived.Shelf.RegionOpen
import Derived.OwnWalkIn
import Derived.TacticsInMore
import Derived.LoopNIn
import Derived.LoopIn
import Derived.RangeFuncWrites
namespace Go.Proofs.YtjkcagfacegjkaaGreat
open Go.RowKit Go.Shelf
set_option linter.unusedSimpArgs false
set_option linter.unusedVariables false

set_option maxRecDepth 100000 in
set_option maxHeartbeats 2000000 in
theorem pairs1_any (y : Value) (g : Nat) (q : Option Addr) (w : World) (h : NoWorld q w) (hg : g < w.heap.size) (hc : w.cell? ⟨g, 0, none⟩ = some (.pointer q)) :
    Calls Tryz.prog 166 #[y, .pointer (some ⟨g, 0, none⟩)] w fun e w' => e = .returned (.tuple #[]) ∧ Below w.heap.size w w' := by
  have H := Lib.hid h
  have HC := Lib.hid hc
  have HG := Lib.hid hg
  have HS : Hid ((Tryz.prog.info? 66).map (·.size) = some zSeen.toArray.size) := Lib.hid (by kernel_rfl)
  have H1 : Hid (zSeen.toArray.all (·.oneCell') = true) := Lib.hid (by kernel_rfl)
  clear h hc hg
  go_enter Tryz.func166, Tryz.ntmps166
  go_wp2_with fail
  go_loopw [3] (fun n wr => ∃ k : Nat, k ≤ 5 ∧ n = .int .u8 ((k : Int) + 1) ∧ Below w.heap.size w wr) (fun n _ => 6 - (intOf n).toNat)
  case atStart => exact ⟨0, by omega, rfl, Below.refl _ _⟩
  case round =>
    obtain ⟨k, hk, rfl, hB⟩ := hrel
    have HB := Lib.hid hB
    clear hB
    by_cases hk5 : k < 5
    · have q0 : (k : Int) + 1 ≤ 5 := by omega
      have hw1 : IntKind.u8.wrap ((k : Int) + 1 + 1) = (k : Int) + 1 + 1 := IntWalk.u8_in _ (by omega)
      go_wp2_with fail
      go_loopw [4] (fun n wr => ∃ j : Nat, j ≤ 5 ∧ n = .int .u8 ((j : Int) + 1) ∧ Below w.heap.size w wr) (fun n _ => 6 - (intOf n).toNat)
      case atStart => exact ⟨0, by omega, rfl, HB.out⟩
      case round =>
        obtain ⟨j, hj, rfl, hB2⟩ := hrel
        have HB2 := Lib.hid hB2
        by_cases hj5 : j < 5
        · have q1 : (j : Int) + 1 ≤ 5 := by omega
          have hw2 : IntKind.u8.wrap ((j : Int) + 1 + 1) = (j : Int) + 1 + 1 := IntWalk.u8_in _ (by omega)
          have hcell := (hB2.cell (p := ⟨g, 0, none⟩) HG.out).trans HC.out
          have HSEEN := Lib.hid (wseen_not ((k : Int) + 1) ((j : Int) + 1) (H.out.below hB2))
          clear hB2
          go_wp2_with fail
          refine HSEEN.out.mono ?_
          rintro e w1 ⟨rfl, hB⟩
          obtain ⟨w2, hw2'⟩ : ∃ w2, w2 = w1.alloc (.cells zSeen.toArray 66) := ⟨_, rfl⟩
          obtain ⟨w3, hw3⟩ : ∃ w3, w2.setCells w1.heap.size 0 zSeen = w3 := ⟨_, rfl⟩
          have hk2 : Blk w2 w1.heap.size 66 zSeen := by rw [hw2']; exact Blk.new w1 66 zSeen
          have hb1 : Below w.heap.size w w1 := HB2.out.trans (hB.mono HB2.out.size)
          have hb2 : Below w.heap.size w w2 := by rw [hw2']; exact hb1.alloc hb1.size _
          have hb3 : Below w.heap.size w w3 := by rw [← hw3]; exact below_keeps hb2 (Keeps.setCells zSeen 0 w2) (Nat.le_refl _) (fun i hi => by have := hb1.size; omega)
          have HA2 : Hid (∀ (o : Oper), o.op = .alloc 66 → ∀ ev, (execOp ev o).run Tryz.prog w1 = .ok (.value (.pointer (some ⟨w1.heap.size, 0, none⟩))) w2) := Lib.hid (fun o ho ev => by
            rw [hw2']; exact exec_alloc_seen w1 o ho ev)
          have HTH : Hid (w2.there w1.heap.size 0 zSeen.toArray.size) := Lib.hid (hk2.there 0 _ (by simp))
          have HW3 := Lib.hid hw3
          have HB3 := Lib.hid hb3
          clear hk2 hb1 hb2 hb3 hw2' hw3 hB
          generalize w1.heap.size = gg at *
          go_wp2_with (first
            | (refine wpList_store_mid rfl 66 _ _ rfl gg 0 zSeen.toArray rfl rfl HTH.out HS.out H1.out ?_; rw [show zSeen.toArray.toList = zSeen from rfl, HW3.out])
            | (refine wpList_value (o := ⟨some 5, .alloc 66, _, _, _, _⟩) (v := .pointer (some ⟨gg, 0, none⟩)) (w' := w2) rfl (HA2.out _ rfl _) ?_))
          go_roundw
          case rel => exact ⟨j + 1, by omega, by go_num, HB3.out⟩
          case measure => simp [intOf]; omega
        · obtain rfl : j = 5 := by omega
          clear hB2
          go_wp2_with fail
          go_roundw
          case rel => exact ⟨k + 1, by omega, by go_num, HB2.out⟩
          case measure => simp [intOf]; omega
    · obtain rfl : k = 5 := by omega
      go_wp2_with fail
      go_end0
      exact ⟨rfl, HB.out⟩
theorem pairs_any (q : Option Addr) (w : World) : Calls Tryz.prog 74 #[.pointer q] w fun e w' => e = .returned (.func (.func 166) #[] #[.pointer (some ⟨w.heap.size, 0, none⟩)]) ∧ w.alloc (.cells #[.pointer q] 77) = w' := by
  go_enter Tryz.func74, Tryz.ntmps74
  go_wp2_with fail
  go_ret
  exact ⟨rfl, rfl⟩

/-- Where there is no world nothing is yielded. -/
theorem pairs_stops (n : Nat) (B : Nat) (q : Option Addr) (w : World) (h : NoWorld q w) (hB : B < w.heap.size) (hc : w.cell? ⟨B, 0, none⟩ = some (.pointer q)) :
    SeqStopsK Fence.wide n Tryz.prog 166 #[.pointer (some ⟨B, 0, none⟩)] (fun x : Empty => Empty.elim x) (fun _ _ => True) (fun ys => ys = []) (fun _ => False) 0 w := fun l J Jx W hW hJ _ _ h0 => by
  have hp := pairs1_any (.func (.yield l) #[] #[]) B q W (h.below hW) (Nat.lt_of_lt_of_le hB hW.size) ((hW.cell (p := ⟨B, 0, none⟩) hB).trans hc)
  refine callsIn_wide.2 (hp.mono ?_)
  rintro e W' ⟨rfl, hb⟩
  refine ⟨⟨_, rfl⟩, .inl ⟨[], rfl, ?_⟩⟩
  exact hJ [] W W' none h0 ⟨hb.os, hb.tape, hb.output, hb.size, fun i hi _ => hb.block i hi⟩ (fun r hr => by cases hr)

set_option maxRecDepth 100000 in
set_option maxHeartbeats 2000000 in
theorem shared_not (q : Option Addr) (w : World) (h : NoWorld q w) : Calls Tryz.prog 20 #[.pointer q] w fun e w' => e = .returned (.bool false) ∧ Below w.heap.size w w' := by
  refine (callsIn_wide (n := 3)).1 ?_
  have h1 : 1 ≤ 3 := by omega
  have k0 : Blk (w.alloc (.cells #[.pointer q] 77)) w.heap.size 77 [.pointer q] := Blk.new _ _ _
  have k1 := Blk.new (w.alloc (.cells #[.pointer q] 77)) 4 [.bool false]
  have k2 := Blk.new ((w.alloc (.cells #[.pointer q] 77)).alloc (.cells #[.bool false] 4)) 77 [.pointer q]
  simp only [World.size_alloc] at k1 k2
  have hcell : ((w.alloc (.cells #[.pointer q] 77)).alloc (.cells #[.bool false] 4)).cell? ⟨w.heap.size, 0, none⟩ = some (.pointer q) := (k0.alloc _).cell 0
  have hB3 : Below w.heap.size w (((w.alloc (.cells #[.pointer q] 77)).alloc (.cells #[.bool false] 4)).alloc (.cells #[.pointer q] 77)) := (((Below.refl _ _).alloc (Nat.le_refl _) _).alloc (by simp) _).alloc (by simp; omega) _
  have K0 := Lib.hid ((k0.alloc (.cells #[.bool false] 4)).alloc (.cells #[.pointer q] 77))
  have K1 := Lib.hid (k1.alloc (.cells #[.pointer q] 77))
  have K2 := Lib.hid k2
  have HB3 := Lib.hid hB3
  have H := Lib.hid h
  clear k0 k1 k2 hB3 h
  refine callsIn_of_wp_marks Tryz.func20 rfl trivial ?_ rfl
  simp only [Tryz.ntmps20, List.size_toArray, List.length_cons, List.length_nil, Nat.reduceAdd, Nat.reduceSub, Array.replicate_succ, Array.replicate_zero, List.push_toArray, List.append_toArray, List.nil_append, List.cons_append]
  gi_wp2_with (refine ⟨trivial, ?_⟩; gi_at_call 74; refine (callsIn_wide.2 (pairs_any _ _)).mono ?_; rintro e w' ⟨rfl, rfl⟩)
  obtain ⟨W3, hW3⟩ : ∃ W3, (((w.alloc (.cells #[.pointer q] 77)).alloc (.cells #[.bool false] 4)).alloc (.cells #[.pointer q] 77)) = W3 := ⟨_, rfl⟩
  rw [hW3] at K0 K1 K2 HB3 ⊢
  clear hcell hW3
  refine wpIn_rangeFunc_ownG rfl h1 (gf := 166) (lb := #[.pointer (some ⟨w.heap.size + 1 + 1, 0, none⟩)]) rfl trivial (enters_of Tryz.func166 (by kernel_rfl) rfl)
    (pairs_stops _ (w.heap.size + 1 + 1) q W3 (H.out.below HB3.out) K2.out.lt (K2.out.cell 0))
    (fun _ _ => trivial) (fun _ _ _ _ _ _ _ _ => trivial) (Below.refl _ _) (fun x => x.elim)
    (fun _ W => Below W3.heap.size W3 W) (fun _ _ _ => False)
    (fun s A B' row hs hg' hr => hs.trans ⟨hg'.os, hg'.tape, hg'.output, hg'.size, fun i hi => hg'.block i (Nat.lt_of_lt_of_le hi hs.size) (fun e => by obtain ⟨h1, _⟩ := hr i e.symm; omega)⟩)
    (fun _ _ _ _ _ hs _ _ => hs)
    (Below.refl _ _)
    (fun x => x.elim)
    ?assign ?body ?done ?stop
  case assign => intro l x; exact x.elim
  case body => intro l pre x; exact x.elim
  case stop => intro D c pre W hD hs hx; exact hx.elim
  case done =>
    rintro D ys W hD rfl hW hK
    have hcell : W.cell? ⟨w.heap.size, 0, none⟩ = some (.pointer q) := (K0.out.below hW K0.out.lt).cell 0
    have kb := K1.out.below hW K1.out.lt
    have hJ := jthere_not (H.out.below (HB3.out.trans (hW.mono HB3.out.size)))
    have HJ := Lib.hid hJ
    have HW := Lib.hid hW
    have HK := Lib.hid hK
    have KB := Lib.hid kb
    clear hJ hW hK kb
    gi_wp2_with (refine ⟨trivial, ?_⟩; gi_at_call 70; refine (callsIn_wide.2 HJ.out).mono ?_; rintro e w1 ⟨rfl, hB1⟩; have kb1 := KB.out.below hB1 KB.out.lt; have kc := kb1.cell 0; have kf := kb1.free 0; simp only [List.getElem?_cons_zero] at kc; have HK1 := Lib.hid ((hB1.block D (Array.getElem?_eq_some_iff.1 HK.out).1).trans HK.out); have HKB := Lib.hid kb1; have HB1 := Lib.hid hB1; clear kb1 hB1)
    have hks : (w1.setCell ⟨w.heap.size + 1, 0, none⟩ (.bool false)).heap[D]? = some (.deferred (some [])) := (Below.heap_setCell w1 ⟨w.heap.size + 1, 0, none⟩ _ D (by have := K1.out.lt; show D ≠ w.heap.size + 1; omega)).trans HK1.out
    refine ⟨by simp, .inl ⟨_, _, rfl, run_takeDeferred hks, ?_⟩⟩
    have hne : w.heap.size + 1 ≠ D := by have := K1.out.lt; omega
    have hblk : Blk ((w1.setCell ⟨w.heap.size + 1, 0, none⟩ (.bool false)).putObj D (.deferred none)) (w.heap.size + 1) 4 [.bool false] := by
      have h9 := HKB.out.put 0 (.bool false)
      unfold Blk at h9 ⊢
      exact (World.putObj_heap_other hne).trans h9
    have hc9 := hblk.cell 0
    simp only [List.getElem?_cons_zero] at hc9
    have hb9 : Below w.heap.size w (w1.setCell ⟨w.heap.size + 1, 0, none⟩ (.bool false)) := ((HB3.out.trans (HW.out.mono HB3.out.size)).trans (HB1.out.mono (Nat.le_trans HB3.out.size HW.out.size))).setCell (by show w.heap.size ≤ w.heap.size + 1; omega) _
    have hb10 : Below w.heap.size w ((w1.setCell ⟨w.heap.size + 1, 0, none⟩ (.bool false)).putObj D (.deferred none)) := ⟨hb9.os, hb9.tape, hb9.output, Nat.le_trans hb9.size (by simp [World.putObj]), fun i hi => (World.putObj_heap_other (by have := K1.out.lt; omega)).trans (hb9.block i hi)⟩
    generalize ((w1.setCell ⟨w.heap.size + 1, 0, none⟩ (.bool false)).putObj D (.deferred none)) = wz at *
    refine ⟨.bool false, ?_, rfl, hb10⟩
    simp [results, asAddr, loadVar, run_underlying Tryz.underlying4, hc9, Result.andThen]
set_option maxRecDepth 100000 in
set_option maxHeartbeats 2000000 in
theorem thereall_not (q : Option Addr) (w : World) (h : NoWorld q w) : Calls Tryz.prog 21 #[.pointer q] w fun e w' => e = .returned (.bool false) ∧ Below w.heap.size w w' := by
  refine (callsIn_wide (n := 3)).1 ?_
  have h1 : 1 ≤ 3 := by omega
  have k0 : Blk (w.alloc (.cells #[.pointer q] 77)) w.heap.size 77 [.pointer q] := Blk.new _ _ _
  have k1 := Blk.new (w.alloc (.cells #[.pointer q] 77)) 4 [.bool false]
  have k2 := Blk.new ((w.alloc (.cells #[.pointer q] 77)).alloc (.cells #[.bool false] 4)) 77 [.pointer q]
  simp only [World.size_alloc] at k1 k2
  have hcell : ((w.alloc (.cells #[.pointer q] 77)).alloc (.cells #[.bool false] 4)).cell? ⟨w.heap.size, 0, none⟩ = some (.pointer q) := (k0.alloc _).cell 0
  have hB3 : Below w.heap.size w (((w.alloc (.cells #[.pointer q] 77)).alloc (.cells #[.bool false] 4)).alloc (.cells #[.pointer q] 77)) := (((Below.refl _ _).alloc (Nat.le_refl _) _).alloc (by simp) _).alloc (by simp; omega) _
  have K0 := Lib.hid ((k0.alloc (.cells #[.bool false] 4)).alloc (.cells #[.pointer q] 77))
  have K1 := Lib.hid (k1.alloc (.cells #[.pointer q] 77))
  have K2 := Lib.hid k2
  have HB3 := Lib.hid hB3
  have H := Lib.hid h
  clear k0 k1 k2 hB3 h
  refine callsIn_of_wp_marks Tryz.func21 rfl trivial ?_ rfl
  simp only [Tryz.ntmps21, List.size_toArray, List.length_cons, List.length_nil, Nat.reduceAdd, Nat.reduceSub, Array.replicate_succ, Array.replicate_zero, List.push_toArray, List.append_toArray, List.nil_append, List.cons_append]
  gi_wp2_with (refine ⟨trivial, ?_⟩; gi_at_call 74; refine (callsIn_wide.2 (pairs_any _ _)).mono ?_; rintro e w' ⟨rfl, rfl⟩)
  obtain ⟨W3, hW3⟩ : ∃ W3, (((w.alloc (.cells #[.pointer q] 77)).alloc (.cells #[.bool false] 4)).alloc (.cells #[.pointer q] 77)) = W3 := ⟨_, rfl⟩
  rw [hW3] at K0 K1 K2 HB3 ⊢
  clear hcell hW3
  refine wpIn_rangeFunc_ownG rfl h1 (gf := 166) (lb := #[.pointer (some ⟨w.heap.size + 1 + 1, 0, none⟩)]) rfl trivial (enters_of Tryz.func166 (by kernel_rfl) rfl)
    (pairs_stops _ (w.heap.size + 1 + 1) q W3 (H.out.below HB3.out) K2.out.lt (K2.out.cell 0))
    (fun _ _ => trivial) (fun _ _ _ _ _ _ _ _ => trivial) (Below.refl _ _) (fun x => x.elim)
    (fun _ W => Below W3.heap.size W3 W) (fun _ _ _ => False)
    (fun s A B' row hs hg' hr => hs.trans ⟨hg'.os, hg'.tape, hg'.output, hg'.size, fun i hi => hg'.block i (Nat.lt_of_lt_of_le hi hs.size) (fun e => by obtain ⟨h1, _⟩ := hr i e.symm; omega)⟩)
    (fun _ _ _ _ _ hs _ _ => hs)
    (Below.refl _ _)
    (fun x => x.elim)
    ?assign ?body ?done ?stop
  case assign => intro l x; exact x.elim
  case body => intro l pre x; exact x.elim
  case stop => intro D c pre W hD hs hx; exact hx.elim
  case done =>
    rintro D ys W hD rfl hW hK
    have hcell : W.cell? ⟨w.heap.size, 0, none⟩ = some (.pointer q) := (K0.out.below hW K0.out.lt).cell 0
    have kb := K1.out.below hW K1.out.lt
    have hJ := jthere_not (H.out.below (HB3.out.trans (hW.mono HB3.out.size)))
    have HJ := Lib.hid hJ
    have HW := Lib.hid hW
    have HK := Lib.hid hK
    have KB := Lib.hid kb
    clear hJ hW hK kb
    gi_wp2_with (refine ⟨trivial, ?_⟩; gi_at_call 70; refine (callsIn_wide.2 HJ.out).mono ?_; rintro e w1 ⟨rfl, hB1⟩; have kb1 := KB.out.below hB1 KB.out.lt; have kc := kb1.cell 0; have kf := kb1.free 0; simp only [List.getElem?_cons_zero] at kc; have HK1 := Lib.hid ((hB1.block D (Array.getElem?_eq_some_iff.1 HK.out).1).trans HK.out); have HKB := Lib.hid kb1; have HB1 := Lib.hid hB1; clear kb1 hB1)
    have hks : (w1.setCell ⟨w.heap.size + 1, 0, none⟩ (.bool false)).heap[D]? = some (.deferred (some [])) := (Below.heap_setCell w1 ⟨w.heap.size + 1, 0, none⟩ _ D (by have := K1.out.lt; show D ≠ w.heap.size + 1; omega)).trans HK1.out
    refine ⟨by simp, .inl ⟨_, _, rfl, run_takeDeferred hks, ?_⟩⟩
    have hne : w.heap.size + 1 ≠ D := by have := K1.out.lt; omega
    have hblk : Blk ((w1.setCell ⟨w.heap.size + 1, 0, none⟩ (.bool false)).putObj D (.deferred none)) (w.heap.size + 1) 4 [.bool false] := by
      have h9 := HKB.out.put 0 (.bool false)
      unfold Blk at h9 ⊢
      exact (World.putObj_heap_other hne).trans h9
    have hc9 := hblk.cell 0
    simp only [List.getElem?_cons_zero] at hc9
    have hb9 : Below w.heap.size w (w1.setCell ⟨w.heap.size + 1, 0, none⟩ (.bool false)) := ((HB3.out.trans (HW.out.mono HB3.out.size)).trans (HB1.out.mono (Nat.le_trans HB3.out.size HW.out.size))).setCell (by show w.heap.size ≤ w.heap.size + 1; omega) _
    have hb10 : Below w.heap.size w ((w1.setCell ⟨w.heap.size + 1, 0, none⟩ (.bool false)).putObj D (.deferred none)) := ⟨hb9.os, hb9.tape, hb9.output, Nat.le_trans hb9.size (by simp [World.putObj]), fun i hi => (World.putObj_heap_other (by have := K1.out.lt; omega)).trans (hb9.block i hi)⟩
    generalize ((w1.setCell ⟨w.heap.size + 1, 0, none⟩ (.bool false)).putObj D (.deferred none)) = wz at *
    refine ⟨.bool false, ?_, rfl, hb10⟩
    simp [results, asAddr, loadVar, run_underlying Tryz.underlying4, hc9, Result.andThen]
theorem fine_not {q : Option Addr} {w : World} (h : NoWorld q w) : Calls Tryz.prog 22 #[.pointer q] w fun e w' => e = .returned (.bool false) ∧ Below w.heap.size w w' := by
  have H := Lib.hid (broken_not h)
  have H2 := Lib.hid (jheard_not h)
  clear h
  go_enter Tryz.func22, Tryz.ntmps22
  go_wp2_with fail
  refine H.out.mono ?_
  rintro e w1 ⟨rfl, rfl⟩
  go_wp2_with fail
  refine H2.out.mono ?_
  rintro e w2 ⟨rfl, hB⟩
  have HB := Lib.hid hB
  clear hB
  go_wp2_with fail
  go_ret
  exact ⟨rfl, HB.out⟩
end Go.Proofs.YtjkcagfacegjkaaGreat
