/- The walk over the document's behind: bytes, and others behind them; The walks over the document's Get, GetLong and GetBytes. -/
import Derived.Test.YtgecfcdafbedaaaGreatZRParamsBodies22
import Derived.Test.YtgecfcdafbedaaaGreatZRParamsBodies34
import Derived.Test.YtgecfcdafbedaaaGreatZRParamsBodies16
import Derived.Test.YtgecfcdafbedaaaGreatZRParamsBodies25
namespace Go.Proofs.YtgecfcdafbedaaaGreat
open Go.RowKit
set_option linter.unusedSimpArgs false
set_option linter.unusedVariables false

/-- New bytes in memory of the call's own. -/
def NewB (w : World) (bytes : List Int) (e : Ending) (w' : World) : Prop :=
  ∃ A c m, bytes.length = m ∧ e = .returned (.slice A m c) ∧ Rd w' .u8 A m bytes ∧ (A = none → c = 0) ∧ m ≤ c ∧ Below w.heap.size w w'
theorem rd_own_any {w : World} {base n : Nat} {v : Value} {xs : List Int} (h : w.ownsRow base 5 1 v n (xs.map (Value.int .u8))) (hb : ∀ x ∈ xs, 0 ≤ x ∧ x ≤ 255) (hn : n ≤ 140737488351232) : ∃ A c, v = .slice A n c ∧ Rd w .u8 A n xs ∧ (A = none → c = 0) ∧ n ≤ c := by
  rcases h.2 with ⟨rfl, rfl⟩ | ⟨g, cap, cur, rfl, _, _, hc, _⟩
  · have hx : xs = [] := List.eq_nil_of_length_eq_zero (by have := h.1; simpa using this)
    subst hx
    exact ⟨none, 0, rfl, rd_nil w .u8, fun _ => rfl, Nat.le_refl _⟩
  · exact ⟨_, cap, rfl, rd_own h hb hn, (fun e => by cases e), hc⟩

/-- The same, told closer. -/
def NewO (w : World) (bytes : List Int) (e : Ending) (w' : World) : Prop :=
  ∃ A c m, bytes.length = m ∧ e = .returned (.slice A m c) ∧ w'.ownsRow w.heap.size 5 1 (.slice A m c) m (bytes.map (Value.int .u8)) ∧ Below w.heap.size w w'
theorem NewO.newB {w w' : World} {bytes : List Int} {e : Ending} (h : NewO w bytes e w') (hb : ∀ x ∈ bytes, 0 ≤ x ∧ x ≤ 255) (hn : bytes.length ≤ 140737488351232) : NewB w bytes e w' := by
  obtain ⟨A, c, m, hm, rfl, ho, hB⟩ := h
  obtain ⟨A', c', e, hr, hz, hc⟩ := rd_own_any ho hb (by omega)
  injection e with e1 _ e2
  subst e1; subst e2
  exact ⟨_, _, m, hm, rfl, hr, hz, hc, hB⟩
theorem NewO.before {w w1 w' : World} {bytes : List Int} {e : Ending} (h : NewO w1 bytes e w') (hb : Below w.heap.size w w1) : NewO w bytes e w' := by
  obtain ⟨A, c, m, hm, he, ho, hB⟩ := h
  exact ⟨A, c, m, hm, he, own_lower ho hb.size, hb.trans (hB.mono hb.size)⟩

set_option maxRecDepth 100000 in
set_option maxHeartbeats 1000000 in
theorem behind_own (A0 : Option Addr) (n0 c0 : Nat) (x0 : List Int) (A1 : Option Addr) (n1 c1 : Nat) (x1 : List Int) (w : World) (r0 : Rd w .u8 A0 n0 x0) (z0 : A0 = none → c0 = 0) (r1 : Rd w .u8 A1 n1 x1) (z1 : A1 = none → c1 = 0) (hn : n0 + n1 ≤ 70368744177664) :
    Calls Tryz.prog 81 #[.slice A0 n0 c0, .slice A1 n1 c1] w (NewO w (x0 ++ x1)) := by
  have h0 := r0.len
  have h1 := r1.len
  have hb0 := rd_bytes r0
  have hb1 := rd_bytes r1
  have R0 := Lib.hid r0
  have R1 := Lib.hid r1
  clear r0 r1
  go_enter Tryz.func81, Tryz.ntmps81
  go_wp2_with (first
    | (at_builtin; refine append_bytes w.heap.size rfl _ _ rfl v1 (0 + n0) ([] ++ x0) rfl A1 n1 c1 x1 rfl HR1.out z1 HO1.out HB1.out.size (by omega) ?_
       intro v2 w2 ho2 hg2 hat2
       have HG2 := Lib.hid hg2
       clear hg2 hat2)
    | (at_builtin; refine append_bytes w.heap.size rfl _ _ rfl (.slice none 0 0) 0 [] rfl A0 n0 c0 x0 rfl R0.out z0 (own_nil _ _ _ _) (Nat.le_refl _) (by omega) ?_
       intro v1 w1 HO1 hg1 hat1
       have HB1 := Lib.hid (grown_nil hg1)
       have HR1 := Lib.hid (R1.out.below HB1.out)
       clear hg1 hat1))
  have hB2 : Below w.heap.size w w2 := grown_below HB1.out HG2.out HO1.out (Nat.le_refl _)
  obtain ⟨A, c, rfl, hc, _⟩ := own_slice ho2.out
  have ho3 := ho2.out
  rw [List.nil_append] at ho3
  have hlen : (x0 ++ x1).length = 0 + n0 + n1 := by simp [h0, h1]
  go_ret
  exact ⟨A, c, _, hlen, rfl, ho3, hB2⟩
theorem behind_any (A0 : Option Addr) (n0 c0 : Nat) (x0 : List Int) (A1 : Option Addr) (n1 c1 : Nat) (x1 : List Int) (w : World) (r0 : Rd w .u8 A0 n0 x0) (z0 : A0 = none → c0 = 0) (r1 : Rd w .u8 A1 n1 x1) (z1 : A1 = none → c1 = 0) (hn : n0 + n1 ≤ 70368744177664) :
    Calls Tryz.prog 81 #[.slice A0 n0 c0, .slice A1 n1 c1] w (NewB w (x0 ++ x1)) :=
  (behind_own A0 n0 c0 x0 A1 n1 c1 x1 w r0 z0 r1 z1 hn).mono fun e w' h => h.newB (fun x hx => by
    rcases List.mem_append.1 hx with h | h
    · exact rd_bytes r0 x h
    · exact rd_bytes r1 x h) (by have := r0.len; have := r1.len; simp; omega)
end Go.Proofs.YtgecfcdafbedaaaGreat

namespace Go.Proofs.YtgecfcdafbedaaaGreat
open Go.RowKit
set_option linter.unusedSimpArgs false
set_option linter.unusedVariables false

theorem exec_alloc_num (W : World) (o : Oper) (ho : o.op = .alloc 31) (ev : Operand → Value) : (execOp ev o).run Tryz.prog W = .ok (.value (.pointer (some ⟨W.heap.size, 0, none⟩))) (W.alloc (.cells ((List.replicate 4 (0 : Int)).map (Value.int .u64)).toArray 31)) := by
  obtain ⟨d, op, t, p, af, g⟩ := o
  simp only at ho
  subst ho
  kernel_rfl
/-- Four cells put anew. -/
theorem Blk.over4 {w : World} {g : Nat} {t : TypeId} {a b c d a' b' c' d' : Value} (h : Blk w g t [a', b', c', d']) :
    Blk ((((w.setCell ⟨g, 0, none⟩ a).setCell ⟨g, 1, none⟩ b).setCell ⟨g, 2, none⟩ c).setCell ⟨g, 3, none⟩ d) g t [a, b, c, d] := by
  simpa using (((h.put 0 a).put 1 b).put 2 c).put 3 d

set_option maxRecDepth 100000 in
set_option maxHeartbeats 2000000 in
theorem refgetlong_any (A0 : Option Addr) (n0 c0 : Nat) (bs : List Int) (w : World) (r0 : Rd w .u8 A0 n0 bs) (l0 : n0 ≤ c0) (z0 : A0 = none → c0 = 0) :
    Calls Tryz.prog 56 #[.slice A0 n0 c0] w fun e w' => e = .returned (.tuple #[longOf (longGot bs n0), .int .i64 (longE n0)]) ∧ Below w.heap.size w w' := by
  have hbig := r0.big
  obtain ⟨w1, hw1⟩ : ∃ w1, w1 = w.alloc (.cells ((List.replicate 4 (0 : Int)).map (Value.int .u64)).toArray 31) := ⟨_, rfl⟩
  obtain ⟨w2, hw2⟩ : ∃ w2, w2 = w1.alloc (.cells ((List.replicate 4 (0 : Int)).map (Value.int .u64)).toArray 31) := ⟨_, rfl⟩
  have hb1 : Below w.heap.size w w1 := by rw [hw1]; exact (Below.refl _ _).alloc (Nat.le_refl _) _
  have hb2 : Below w.heap.size w w2 := by rw [hw2]; exact hb1.alloc hb1.size _
  have ha1 : Blk w1 w.heap.size 31 ((List.replicate 4 (0 : Int)).map (Value.int .u64)) := by rw [hw1]; exact Blk.new _ _ _
  have ha2 : Blk w2 w.heap.size 31 ((List.replicate 4 (0 : Int)).map (Value.int .u64)) := by rw [hw2]; exact ha1.alloc _
  have hk2 : Blk w2 w1.heap.size 31 ((List.replicate 4 (0 : Int)).map (Value.int .u64)) := by rw [hw2]; exact Blk.new _ _ _
  have hne : w.heap.size ≠ w1.heap.size := by have := ha1.lt; omega
  have hle : w.heap.size ≤ w1.heap.size := hb1.size
  have HB := Lib.hid hb2
  have HA := Lib.hid ha2
  have HK := Lib.hid hk2
  have h1k : ∀ (o : Oper), o.op = .alloc 31 → ∀ ev, (execOp ev o).run Tryz.prog w = .ok (.value (.pointer (some ⟨w.heap.size, 0, none⟩))) w1 := fun o ho ev => by rw [hw1]; exact exec_alloc_num w o ho ev
  have h2k : ∀ (o : Oper), o.op = .alloc 31 → ∀ ev, (execOp ev o).run Tryz.prog w1 = .ok (.value (.pointer (some ⟨w1.heap.size, 0, none⟩))) w2 := fun o ho ev => by rw [hw2]; exact exec_alloc_num w1 o ho ev
  have H1 := Lib.hid h1k
  have H2 := Lib.hid h2k
  clear h1k h2k hb1 hb2 ha1 ha2 hk2 hw1 hw2
  by_cases ks : n0 < 32
  · have e1 : longGot bs n0 = [0, 0, 0, 0] := by unfold longGot; rw [if_pos ks]
    have e2 : longE n0 = 5 := by unfold longE; rw [if_pos ks]
    rw [e1, e2]
    clear e1 e2
    have z0 := HK.out.cell 0
    have z1 := HK.out.cell 1
    have z2 := HK.out.cell 2
    have z3 := HK.out.cell 3
    have f0 := HA.out.free 0
    have f1 := HA.out.free 1
    have f2 := HA.out.free 2
    have f3 := HA.out.free 3
    have y0 := HA.out.cell 0
    have y1 := HA.out.cell 1
    have y2 := HA.out.cell 2
    have y3 := HA.out.cell 3
    simp [List.replicate] at z0 z1 z2 z3 y0 y1 y2 y3
    go_enter Tryz.func56, Tryz.ntmps56
    go_wp2_with (first
      | (refine wpList_value (o := ⟨some 4, .alloc 31, _, _, _, _⟩) (v := .pointer (some ⟨w1.heap.size, 0, none⟩)) (w' := w2) rfl (H2.out _ rfl _) ?_)
      | (refine wpList_value (o := ⟨some 2, .alloc 31, _, _, _, _⟩) (v := .pointer (some ⟨w.heap.size, 0, none⟩)) (w' := w1) rfl (H1.out _ rfl _) ?_))
    refine bodyPost_ret (results_row_tmp rfl _ _ w.heap.size [.int .u64 0, .int .u64 0, .int .u64 0, .int .u64 0] _ rfl ?_ Tryz.underlying31 rfl (by kernel_rfl)) rfl ?_
    · first | exact HA.out.over4 | exact HA.out
    · exact ⟨rfl, by first | exact HB.out | exact ((((HB.out.setCell (Nat.le_refl _) _).setCell (Nat.le_refl _) _).setCell (Nat.le_refl _) _).setCell (Nat.le_refl _) _)⟩
  · have e1 : longGot bs n0 = (List.range 4).map fun i => told ((bs.drop (24 - 8 * i)).take 8) := by unfold longGot; rw [if_neg ks]; rfl
    have e2 : longE n0 = 0 := by unfold longE; rw [if_neg ks]
    rw [e1, e2]
    clear e1 e2
    have HR := Lib.hid r0
    clear r0
    go_enter Tryz.func56, Tryz.ntmps56
    go_wp2_with (first
      | (refine wpList_value (o := ⟨some 4, .alloc 31, _, _, _, _⟩) (v := .pointer (some ⟨w1.heap.size, 0, none⟩)) (w' := w2) rfl (H2.out _ rfl _) ?_)
      | (refine wpList_value (o := ⟨some 2, .alloc 31, _, _, _, _⟩) (v := .pointer (some ⟨w.heap.size, 0, none⟩)) (w' := w1) rfl (H1.out _ rfl _) ?_))
    go_loopw [5] (fun i wr => ∃ k : Nat, k ≤ 4 ∧ i = .int .i64 k ∧ Below w.heap.size w wr ∧ Blk wr w.heap.size 31 ((List.replicate 4 (0 : Int)).map (Value.int .u64)) ∧
        Blk wr w1.heap.size 31 (((List.range k).map (fun i => told ((bs.drop (24 - 8 * i)).take 8)) ++ List.replicate (4 - k) 0).map (Value.int .u64))) (fun i _ => 4 - (intOf i).toNat)
    case atStart => exact ⟨0, by omega, rfl, HB.out, HA.out, HK.out⟩
    case round =>
      obtain ⟨k, hk, rfl, hB, hA, hblk⟩ := hrel
      by_cases hk4 : k < 4
      · obtain ⟨f, hf⟩ : ∃ f, 24 - 8 * k = f := ⟨_, rfl⟩
        obtain ⟨A', hsl, hrd, hz⟩ := slice_mid A0 n0 c0 f (f + 8) (by omega) (by omega) l0 z0
        rw [show f + 8 - f = 8 by omega] at hsl hrd
        have hcall := told_any 8 A' (c0 - f) _ wr (by omega) (hrd wr bs (HR.out.below hB)) (by omega)
        have hF : (24 : Int) - 8 * (k : Int) = (f : Int) := by omega
        have hF2 : (32 : Int) - 8 * (k : Int) = ((f + 8 : Nat) : Int) := by omega
        have hfr := hblk.free k
        generalize f + 8 = f8 at *
        clear hrd hz HR HB HA HK
        go_wp2_with fail
        refine hcall.mono ?_
        rintro e W' ⟨rfl, q, rfl⟩
        have hB' : Below w.heap.size w (wr.drewN q) := below_drawn hB ⟨q, rfl⟩
        have hblk' := hblk.drewN q
        have hA' := hA.drewN q
        have hfr' := hblk'.free k
        have hce := hblk'.int_at k (by simp; omega)
        have hput := hblk'.int_put k (told ((bs.drop f).take 8))
        have hl : ((List.range k).map (fun i => told ((bs.drop (24 - 8 * i)).take 8)) ++ List.replicate (4 - k) 0).set k (told ((bs.drop f).take 8)) = (List.range (k + 1)).map (fun i => told ((bs.drop (24 - 8 * i)).take 8)) ++ List.replicate (4 - (k + 1)) 0 := by
          rw [List.set_append, if_neg (by simp), List.range_succ, List.map_append, List.length_map, List.length_range, Nat.sub_self, show 4 - k = (4 - (k + 1)) + 1 by omega, List.replicate_succ]
          simp [hf]
        rw [hl] at hput
        have HP := Lib.hid hput
        have HA2 := Lib.hid (hA'.far (p := ⟨w1.heap.size, k, none⟩) hne (.int .u64 (told ((bs.drop f).take 8))))
        have HB2 := Lib.hid (hB'.setCell (p := ⟨w1.heap.size, k, none⟩) hle (.int .u64 (told ((bs.drop f).take 8))))
        clear hput hl hA' hA hB hB' hblk hblk'
        generalize (((List.range k).map (fun i => told ((bs.drop (24 - 8 * i)).take 8)) ++ List.replicate (4 - k) 0)[k]?.getD 0) = old at *
        go_wp2_with fail
        refine ⟨⟨k + 1, by omega, by go_num, HB2.out, HA2.out, HP.out⟩, by simp [intOf]; omega⟩
      · obtain rfl : k = 4 := by omega
        have z0 := hblk.cell 0
        have z1 := hblk.cell 1
        have z2 := hblk.cell 2
        have z3 := hblk.cell 3
        have f0 := hA.free 0
        have f1 := hA.free 1
        have f2 := hA.free 2
        have f3 := hA.free 3
        have y0 := hA.cell 0
        have y1 := hA.cell 1
        have y2 := hA.cell 2
        have y3 := hA.cell 3
        simp [List.range_succ, List.replicate] at z0 z1 z2 z3 y0 y1 y2 y3
        go_wp2_with fail
        refine bodyPost_ret (results_row_tmp rfl _ _ w.heap.size _ _ rfl hA.over4 Tryz.underlying31 rfl (by kernel_rfl)) rfl ?_
        exact ⟨rfl, ((((hB.setCell (Nat.le_refl _) _).setCell (Nat.le_refl _) _).setCell (Nat.le_refl _) _).setCell (Nat.le_refl _) _)⟩

end Go.Proofs.YtgecfcdafbedaaaGreat
