/- The walks over the document's Get, GetLong and GetBytes. -/
import Derived.Test.YtigcpjjmafpjhaaGreatDoorKTold
import Derived.Test.YtigcpjjmafpjhaaGreatDoorKBehind
import Derived.Test.YtigcpjjmafpjhaaGreatDoorKSlice
import Derived.Test.YtigcpjjmafpjhaaGreatDoorNBytesK
namespace Go.Proofs.YtigcpjjmafpjhaaGreatDoor
open Go.RowKit
set_option linter.unusedSimpArgs false
set_option linter.unusedVariables false

theorem drawn_below {w w' : World} (h : Drawn w w') : Below w.heap.size w w' := below_drawn (Below.refl _ _) h

set_option maxRecDepth 100000 in
set_option maxHeartbeats 1000000 in
theorem refget_any (A0 : Option Addr) (n0 c0 : Nat) (bs : List Int) (k : Int) (w : World) (r0 : Rd w .u8 A0 n0 bs) (l0 : n0 ≤ c0) :
    Calls Tryz.prog 8 #[.slice A0 n0 c0, .int .i64 k] w fun e w' => e = .returned (.tuple #[.int .u64 (getN bs n0 k), .int .i64 (getE n0 k)]) ∧ Below w.heap.size w w' := by
  have hbig := r0.big
  by_cases k0 : k < 0
  · have e1 : getE n0 k = 1 := by unfold getE; rw [if_pos (.inl k0)]
    have e2 : getN bs n0 k = 0 := by unfold getN; rw [e1]; rfl
    rw [e1, e2]
    clear e1 e2
    go_enter Tryz.func8, Tryz.ntmps8
    go_wp2_with fail
    go_ret2
    exact ⟨rfl, Below.refl _ _⟩
  by_cases k8 : 8 < k
  · have e1 : getE n0 k = 1 := by unfold getE; rw [if_pos (.inr k8)]
    have e2 : getN bs n0 k = 0 := by unfold getN; rw [e1]; rfl
    rw [e1, e2]
    clear e1 e2
    go_enter Tryz.func8, Tryz.ntmps8
    go_wp2_with fail
    go_ret2
    exact ⟨rfl, Below.refl _ _⟩
  obtain ⟨m, rfl⟩ := Int.eq_ofNat_of_zero_le (show 0 ≤ k by omega)
  by_cases ks : n0 < m
  · have e1 : getE n0 (m : Int) = 5 := by unfold getE; rw [if_neg (by omega), if_pos (by omega)]
    have e2 : getN bs n0 (m : Int) = 0 := by unfold getN; rw [e1]; rfl
    rw [e1, e2]
    clear e1 e2
    go_enter Tryz.func8, Tryz.ntmps8
    go_wp2_with fail
    go_ret2
    exact ⟨rfl, Below.refl _ _⟩
  · have e1 : getE n0 (m : Int) = 0 := by unfold getE; rw [if_neg (by omega), if_neg (by omega)]
    have e2 : getN bs n0 (m : Int) = told (bs.take m) := by unfold getN; rw [e1]; simp
    rw [e1, e2]
    clear e1 e2
    have hsl : ∀ W : World, (Instr.slice 22 (.slice A0 n0 c0) none (some (.int .i64 (m : Int))) none).run Tryz.prog W = .ok (.slice A0 m c0) W := fun W => slice_to W _ n0 c0 m (by omega)
    have HT := Lib.hid (told_any m A0 c0 (bs.take m) w (by omega) (r0.cut m (by omega)) (by omega))
    go_enter Tryz.func8, Tryz.ntmps8
    go_wp2_with fail
    refine HT.out.mono ?_; rintro e w1 ⟨rfl, hD⟩
    go_wp2_with fail
    go_ret2
    exact ⟨rfl, drawn_below hD⟩

theorem exec_alloc_num (W : World) (o : Oper) (ho : o.op = .alloc 30) (ev : Operand → Value) : (execOp ev o).run Tryz.prog W = .ok (.value (.pointer (some ⟨W.heap.size, 0, none⟩))) (W.alloc (.cells ((List.replicate 4 (0 : Int)).map (Value.int .u64)).toArray 30)) := by
  obtain ⟨d, op, t, p, af, g⟩ := o
  simp only at ho
  subst ho
  kernel_rfl
/-- Four cells put anew. -/
theorem Blk.over4 {w : World} {g : Nat} {t : TypeId} {a b c d a' b' c' d' : Value} (h : Blk w g t [a', b', c', d']) :
    Blk ((((w.setCell ⟨g, 0, none⟩ a).setCell ⟨g, 1, none⟩ b).setCell ⟨g, 2, none⟩ c).setCell ⟨g, 3, none⟩ d) g t [a, b, c, d] := by
  simpa using (((h.put 0 a).put 1 b).put 2 c).put 3 d

set_option maxRecDepth 100000 in
set_option maxHeartbeats 2000000 in
theorem refgetlong_any (A0 : Option Addr) (n0 c0 : Nat) (bs : List Int) (w : World) (r0 : Rd w .u8 A0 n0 bs) (l0 : n0 ≤ c0) (z0 : A0 = none → c0 = 0) :
    Calls Tryz.prog 10 #[.slice A0 n0 c0] w fun e w' => e = .returned (.tuple #[longOf (longGot bs n0), .int .i64 (longE n0)]) ∧ Below w.heap.size w w' := by
  have hbig := r0.big
  obtain ⟨w1, hw1⟩ : ∃ w1, w1 = w.alloc (.cells ((List.replicate 4 (0 : Int)).map (Value.int .u64)).toArray 30) := ⟨_, rfl⟩
  obtain ⟨w2, hw2⟩ : ∃ w2, w2 = w1.alloc (.cells ((List.replicate 4 (0 : Int)).map (Value.int .u64)).toArray 30) := ⟨_, rfl⟩
  have hb1 : Below w.heap.size w w1 := by rw [hw1]; exact (Below.refl _ _).alloc (Nat.le_refl _) _
  have hb2 : Below w.heap.size w w2 := by rw [hw2]; exact hb1.alloc hb1.size _
  have ha1 : Blk w1 w.heap.size 30 ((List.replicate 4 (0 : Int)).map (Value.int .u64)) := by rw [hw1]; exact Blk.new _ _ _
  have ha2 : Blk w2 w.heap.size 30 ((List.replicate 4 (0 : Int)).map (Value.int .u64)) := by rw [hw2]; exact ha1.alloc _
  have hk2 : Blk w2 w1.heap.size 30 ((List.replicate 4 (0 : Int)).map (Value.int .u64)) := by rw [hw2]; exact Blk.new _ _ _
  have hne : w.heap.size ≠ w1.heap.size := by have := ha1.lt; omega
  have hle : w.heap.size ≤ w1.heap.size := hb1.size
  have HB := Lib.hid hb2
  have HA := Lib.hid ha2
  have HK := Lib.hid hk2
  have h1k : ∀ (o : Oper), o.op = .alloc 30 → ∀ ev, (execOp ev o).run Tryz.prog w = .ok (.value (.pointer (some ⟨w.heap.size, 0, none⟩))) w1 := fun o ho ev => by rw [hw1]; exact exec_alloc_num w o ho ev
  have h2k : ∀ (o : Oper), o.op = .alloc 30 → ∀ ev, (execOp ev o).run Tryz.prog w1 = .ok (.value (.pointer (some ⟨w1.heap.size, 0, none⟩))) w2 := fun o ho ev => by rw [hw2]; exact exec_alloc_num w1 o ho ev
  have H1 := Lib.hid h1k
  have H2 := Lib.hid h2k
  clear h1k h2k hb1 hb2 ha1 ha2 hk2 hw1 hw2
  by_cases ks : n0 < 32
  · have e1 : longGot bs n0 = [0, 0, 0, 0] := by unfold longGot; rw [if_pos ks]
    have e2 : longE n0 = 5 := by unfold longE; rw [if_pos ks]
    rw [e1, e2]
    clear e1 e2
    have z0 := HK.out.cell 0
    have z1 := HK.out.cell 1
    have z2 := HK.out.cell 2
    have z3 := HK.out.cell 3
    have f0 := HA.out.free 0
    have f1 := HA.out.free 1
    have f2 := HA.out.free 2
    have f3 := HA.out.free 3
    have y0 := HA.out.cell 0
    have y1 := HA.out.cell 1
    have y2 := HA.out.cell 2
    have y3 := HA.out.cell 3
    simp [List.replicate] at z0 z1 z2 z3 y0 y1 y2 y3
    go_enter Tryz.func10, Tryz.ntmps10
    go_wp2_with (first
      | (refine wpList_value (o := ⟨some 4, .alloc 30, _, _, _, _⟩) (v := .pointer (some ⟨w1.heap.size, 0, none⟩)) (w' := w2) rfl (H2.out _ rfl _) ?_)
      | (refine wpList_value (o := ⟨some 2, .alloc 30, _, _, _, _⟩) (v := .pointer (some ⟨w.heap.size, 0, none⟩)) (w' := w1) rfl (H1.out _ rfl _) ?_))
    refine bodyPost_ret (results_row_tmp rfl _ _ w.heap.size [.int .u64 0, .int .u64 0, .int .u64 0, .int .u64 0] _ rfl ?_ Tryz.underlying30 rfl (by kernel_rfl)) rfl ?_
    · first | exact HA.out.over4 | exact HA.out
    · exact ⟨rfl, by first | exact HB.out | exact ((((HB.out.setCell (Nat.le_refl _) _).setCell (Nat.le_refl _) _).setCell (Nat.le_refl _) _).setCell (Nat.le_refl _) _)⟩
  · have e1 : longGot bs n0 = (List.range 4).map fun i => told ((bs.drop (24 - 8 * i)).take 8) := by unfold longGot; rw [if_neg ks]; rfl
    have e2 : longE n0 = 0 := by unfold longE; rw [if_neg ks]
    rw [e1, e2]
    clear e1 e2
    have HR := Lib.hid r0
    clear r0
    go_enter Tryz.func10, Tryz.ntmps10
    go_wp2_with (first
      | (refine wpList_value (o := ⟨some 4, .alloc 30, _, _, _, _⟩) (v := .pointer (some ⟨w1.heap.size, 0, none⟩)) (w' := w2) rfl (H2.out _ rfl _) ?_)
      | (refine wpList_value (o := ⟨some 2, .alloc 30, _, _, _, _⟩) (v := .pointer (some ⟨w.heap.size, 0, none⟩)) (w' := w1) rfl (H1.out _ rfl _) ?_))
    go_loopw [5] (fun i wr => ∃ k : Nat, k ≤ 4 ∧ i = .int .i64 k ∧ Below w.heap.size w wr ∧ Blk wr w.heap.size 30 ((List.replicate 4 (0 : Int)).map (Value.int .u64)) ∧
        Blk wr w1.heap.size 30 (((List.range k).map (fun i => told ((bs.drop (24 - 8 * i)).take 8)) ++ List.replicate (4 - k) 0).map (Value.int .u64))) (fun i _ => 4 - (intOf i).toNat)
    case atStart => exact ⟨0, by omega, rfl, HB.out, HA.out, HK.out⟩
    case round =>
      obtain ⟨k, hk, rfl, hB, hA, hblk⟩ := hrel
      by_cases hk4 : k < 4
      · obtain ⟨f, hf⟩ : ∃ f, 24 - 8 * k = f := ⟨_, rfl⟩
        obtain ⟨A', hsl, hrd, hz⟩ := slice_mid A0 n0 c0 f (f + 8) (by omega) (by omega) l0 z0
        rw [show f + 8 - f = 8 by omega] at hsl hrd
        have hcall := told_any 8 A' (c0 - f) _ wr (by omega) (hrd wr bs (HR.out.below hB)) (by omega)
        have hF : (24 : Int) - 8 * (k : Int) = (f : Int) := by omega
        have hF2 : (32 : Int) - 8 * (k : Int) = ((f + 8 : Nat) : Int) := by omega
        have hfr := hblk.free k
        generalize f + 8 = f8 at *
        clear hrd hz HR HB HA HK
        go_wp2_with fail
        refine hcall.mono ?_
        rintro e W' ⟨rfl, q, rfl⟩
        have hB' : Below w.heap.size w (wr.drewN q) := below_drawn hB ⟨q, rfl⟩
        have hblk' := hblk.drewN q
        have hA' := hA.drewN q
        have hfr' := hblk'.free k
        have hce := hblk'.int_at k (by simp; omega)
        have hput := hblk'.int_put k (told ((bs.drop f).take 8))
        have hl : ((List.range k).map (fun i => told ((bs.drop (24 - 8 * i)).take 8)) ++ List.replicate (4 - k) 0).set k (told ((bs.drop f).take 8)) = (List.range (k + 1)).map (fun i => told ((bs.drop (24 - 8 * i)).take 8)) ++ List.replicate (4 - (k + 1)) 0 := by
          rw [List.set_append, if_neg (by simp), List.range_succ, List.map_append, List.length_map, List.length_range, Nat.sub_self, show 4 - k = (4 - (k + 1)) + 1 by omega, List.replicate_succ]
          simp [hf]
        rw [hl] at hput
        have HP := Lib.hid hput
        have HA2 := Lib.hid (hA'.far (p := ⟨w1.heap.size, k, none⟩) hne (.int .u64 (told ((bs.drop f).take 8))))
        have HB2 := Lib.hid (hB'.setCell (p := ⟨w1.heap.size, k, none⟩) hle (.int .u64 (told ((bs.drop f).take 8))))
        clear hput hl hA' hA hB hB' hblk hblk'
        generalize (((List.range k).map (fun i => told ((bs.drop (24 - 8 * i)).take 8)) ++ List.replicate (4 - k) 0)[k]?.getD 0) = old at *
        go_wp2_with fail
        refine ⟨⟨k + 1, by omega, by go_num, HB2.out, HA2.out, HP.out⟩, by simp [intOf]; omega⟩
      · obtain rfl : k = 4 := by omega
        have z0 := hblk.cell 0
        have z1 := hblk.cell 1
        have z2 := hblk.cell 2
        have z3 := hblk.cell 3
        have f0 := hA.free 0
        have f1 := hA.free 1
        have f2 := hA.free 2
        have f3 := hA.free 3
        have y0 := hA.cell 0
        have y1 := hA.cell 1
        have y2 := hA.cell 2
        have y3 := hA.cell 3
        simp [List.range_succ, List.replicate] at z0 z1 z2 z3 y0 y1 y2 y3
        go_wp2_with fail
        refine bodyPost_ret (results_row_tmp rfl _ _ w.heap.size _ _ rfl hA.over4 Tryz.underlying30 rfl (by kernel_rfl)) rfl ?_
        exact ⟨rfl, ((((hB.setCell (Nat.le_refl _) _).setCell (Nat.le_refl _) _).setCell (Nat.le_refl _) _).setCell (Nat.le_refl _) _)⟩

/-- What the document's GetBytes tells. -/
def RefB (w : World) (bs : List Int) (e : Ending) (w' : World) : Prop :=
  (gotB bs = none ∧ e = .returned (.tuple #[.slice none 0 0, .int .i64 0, .int .i64 5]) ∧ Below w.heap.size w w') ∨
  ∃ l A c, gotB bs = some l ∧ e = .returned (.tuple #[.slice A l.length c, .int .i64 (4 + (l.length : Int)), .int .i64 0]) ∧ Rd w' .u8 A l.length l ∧ Below w.heap.size w w'

set_option maxRecDepth 100000 in
set_option maxHeartbeats 1000000 in
theorem refgetbytes_any (A0 : Option Addr) (n0 c0 : Nat) (bs : List Int) (w : World) (r0 : Rd w .u8 A0 n0 bs) (l0 : n0 ≤ c0) (z0 : A0 = none → c0 = 0) (hn : n0 ≤ 70368744177664) :
    Calls Tryz.prog 12 #[.slice A0 n0 c0] w (RefB w bs) := by
  have hbig := r0.big
  have hl := r0.len
  by_cases ks : n0 < 4
  · have e3 : gotB bs = none := by unfold gotB; rw [if_pos (by omega)]
    have H3 := Lib.hid e3
    clear e3
    go_enter Tryz.func12, Tryz.ntmps12
    go_wp2_with fail
    go_ret3
    exact .inl ⟨H3.out, rfl, Below.refl _ _⟩
  · have e3 : gotB bs = if ((n0 - 4 : Nat) : Int) < told (bs.take 4) then none else some ((bs.drop 4).take (told (bs.take 4)).toNat) := by unfold gotB; rw [if_neg (by omega), hl]
    have hN := told8 (bs.take 4) (fun x hx => rd_bytes r0 x (List.mem_of_mem_take hx)) (by simp; omega)
    have hs4 : ∀ W : World, (Instr.slice 22 (.slice A0 n0 c0) none (some (.int .i64 4)) none).run Tryz.prog W = .ok (.slice A0 4 c0) W := fun W => slice_to W A0 n0 c0 4 (by omega)
    have hcall : ∀ W : World, Drawn w W → Calls Tryz.prog 23 #[.slice A0 4 c0] W fun e W' => e = .returned (.int .u64 (told (bs.take 4))) ∧ Drawn w W' := fun W hW => by
      have rW : Rd W .u8 A0 n0 bs := r0.below (drawn_below hW)
      refine (told_any 4 A0 c0 (bs.take 4) W (by omega) (rW.cut 4 (by omega)) (by omega)).mono ?_
      rintro e W' ⟨rfl, q, rfl⟩
      exact ⟨rfl, by obtain ⟨q2, rfl⟩ := hW; exact (Drawn.refl w).step _ |>.step _⟩
    generalize told (bs.take 4) = N at *
    obtain ⟨hN0, hN1⟩ := hN
    obtain ⟨m, rfl⟩ := Int.eq_ofNat_of_zero_le hN0
    have HC := Lib.hid hcall
    have H3 := Lib.hid e3
    have HR := Lib.hid r0
    have HD := Lib.hid (Drawn.refl w)
    have hw1 : IntKind.u64.wrap (4 + (m : Int)) = 4 + (m : Int) := IntWalk.u64_in _ (by omega)
    have hw2 : IntKind.u64.wrap (n0 : Int) = (n0 : Int) := IntWalk.u64_in _ (by omega)
    clear e3 hcall hl r0
    by_cases kn : ((n0 - 4 : Nat) : Int) < (m : Int)
    · have kn2 : (n0 : Int) < 4 + (m : Int) := by omega
      have KN := Lib.hid kn
      clear kn hN0 hN1 hbig hn l0 z0
      go_enter Tryz.func12, Tryz.ntmps12
      go_wp2_with fail
      refine (HC.out _ HD.out).mono ?_; rintro e w1 ⟨rfl, hD⟩
      go_wp2_with fail
      go_ret3
      exact .inl ⟨by rw [H3.out, if_pos KN.out], rfl, drawn_below hD⟩
    · have kn3 : decide ((n0 : Int) < 4 + (m : Int)) = false := by simp; omega
      have hm4 : 4 + m ≤ n0 := by omega
      obtain ⟨A', hsl, hrd, hz⟩ := slice_mid A0 n0 c0 4 (4 + m) (by omega) hm4 l0 z0
      rw [show 4 + m - 4 = m by omega] at hsl hrd
      rw [show ((4 + m : Nat) : Int) = 4 + (m : Int) by omega, show ((4 : Nat) : Int) = 4 from rfl] at hsl
      have hw3 : IntKind.i64.wrap (m : Int) = (m : Int) := IntWalk.i64_in _ (by omega)
      have hw4 : IntKind.i64.wrap (4 + (m : Int)) = 4 + (m : Int) := IntWalk.i64_in _ (by omega)
      have H4 : gotB bs = some ((bs.drop 4).take m) := by rw [H3.out, if_neg kn]; rfl
      have HHR : Hid (∀ W, Drawn w W → Rd W .u8 A' m ((bs.drop 4).take m)) := Lib.hid fun W hW => hrd W bs (HR.out.below (drawn_below hW))
      have HZ := Lib.hid hz
      have H5 := Lib.hid H4
      have HM4 := Lib.hid hm4
      have HN := Lib.hid hn
      clear hrd hz H3 HR H4 kn hm4 hN1 hN0 hbig l0
      generalize (bs.drop 4).take m = ys at *
      go_enter Tryz.func12, Tryz.ntmps12
      go_wp2_with fail
      refine (HC.out _ HD.out).mono ?_; rintro e w1 ⟨rfl, hD1⟩
      have HD1 := Lib.hid hD1
      clear hD1
      go_wp2_with fail
      refine (HC.out _ HD1.out).mono ?_; rintro e w2 ⟨rfl, hD2⟩
      have HD2 := Lib.hid hD2
      clear hD2
      go_wp2_with fail
      refine (behind_any none 0 0 [] A' m (c0 - 4) ys w2 (rd_nil w2 .u8) (fun _ => rfl) (HHR.out _ HD2.out) HZ.out (by have := HM4.out; have := HN.out; omega)).mono ?_
      rintro e w3 ⟨A, c, m3, hm3, rfl, hr3, hz3, hc3, hB3⟩
      have hyl : ys.length = m := (HHR.out _ HD2.out).len
      have hB4 : Below w.heap.size w w3 := (drawn_below HD2.out).trans (hB3.mono (drawn_below HD2.out).size)
      rw [List.nil_append] at hr3 hm3
      obtain rfl : m = m3 := by rw [← hm3, hyl]
      have HR3 := Lib.hid hr3
      have HB4 := Lib.hid hB4
      have HYL := Lib.hid hyl
      clear hr3 hB3 hB4 hyl hc3 hm3
      go_wp2_with fail
      go_ret3
      exact .inr ⟨ys, A, c, H5.out, by rw [HYL.out]; rfl, by rw [HYL.out]; exact HR3.out, HB4.out⟩
end Go.Proofs.YtigcpjjmafpjhaaGreatDoor
