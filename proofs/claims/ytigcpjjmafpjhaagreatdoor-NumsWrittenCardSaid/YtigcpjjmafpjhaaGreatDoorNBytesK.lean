/- The walks over nums.GetBytes, slices.Grow, slices.Clip, nums.PutBytes, SameBytes and Beyond. -/
import Derived.Test.YtigcpjjmafpjhaaGreatDoorNLongK
import Derived.Lib.AppendZerosOnto
import Derived.Lib.SliceRun
namespace Go.Proofs.YtigcpjjmafpjhaaGreatDoor
open Go.RowKit
set_option linter.unusedSimpArgs false
set_option linter.unusedVariables false

/-- What GetBytes tells: the bytes, or none. -/
def gotB (bs : List Int) : Option (List Int) := if bs.length < 4 then none else if ((bs.length - 4 : Nat) : Int) < told (bs.take 4) then none else some ((bs.drop 4).take (told (bs.take 4)).toNat)
def GotB (w : World) (bs : List Int) (e : Ending) (w' : World) : Prop :=
  (gotB bs = none ∧ e = .returned (.tuple #[.slice none 0 0, .int .i64 0, .int .i64 5]) ∧ Below w.heap.size w w') ∨
  ∃ l g, gotB bs = some l ∧ w.heap.size ≤ g ∧ e = .returned (.tuple #[.slice (some ⟨g, 0, none⟩) l.length l.length, .int .i64 (4 + (l.length : Int)), .int .i64 0]) ∧ Blk w' g 5 (l.map (Value.int .u8)) ∧ Below w.heap.size w w'

set_option maxRecDepth 100000 in
set_option maxHeartbeats 1000000 in
theorem getbytes_any (A0 : Option Addr) (n0 c0 : Nat) (bs : List Int) (w : World) (r0 : Rd w .u8 A0 n0 bs) (l0 : n0 ≤ c0) :
    Calls Tryz.prog 11 #[.slice A0 n0 c0] w (GotB w bs) := by
  have hbig := r0.big
  have hl := r0.len
  have hget := get_any A0 n0 c0 bs 4 w r0 l0
  by_cases ks : n0 < 4
  · have e1 : getE n0 4 = 5 := by unfold getE; rw [if_neg (by omega), if_pos (by omega)]
    have e2 : getN bs n0 4 = 0 := by unfold getN; rw [e1]; rfl
    have e3 : gotB bs = none := by unfold gotB; rw [if_pos (by omega)]
    rw [e1, e2] at hget
    have HG := Lib.hid hget
    have H3 := Lib.hid e3
    clear e1 e2 e3 hget
    go_enter Tryz.func11, Tryz.ntmps11
    go_wp2_with fail
    refine HG.out.mono ?_; rintro e w1 ⟨rfl, hB⟩
    go_wp2_with fail
    go_ret3
    exact .inl ⟨H3.out, rfl, hB⟩
  · have e1 : getE n0 4 = 0 := by unfold getE; rw [if_neg (by omega), if_neg (by omega)]
    have e2 : getN bs n0 4 = told (bs.take 4) := by unfold getN; rw [e1]; rfl
    rw [e1, e2] at hget
    have e3 : gotB bs = if ((n0 - 4 : Nat) : Int) < told (bs.take 4) then none else some ((bs.drop 4).take (told (bs.take 4)).toNat) := by unfold gotB; rw [if_neg (by omega), hl]
    have hN := told8 (bs.take 4) (fun x hx => rd_bytes r0 x (List.mem_of_mem_take hx)) (by simp; omega)
    obtain ⟨b, off, rfl, hb, hc⟩ := r0.row (by omega)
    clear hc
    generalize told (bs.take 4) = N at *
    obtain ⟨hN0, hN1⟩ := hN
    have HG := Lib.hid hget
    have H3 := Lib.hid e3
    clear e1 e2 e3 hget hl
    by_cases kn : ((n0 - 4 : Nat) : Int) < N
    · have kn2 : (n0 : Int) - 4 < N := by omega
      by_cases kc : c0 = 4
      · obtain rfl : n0 = 4 := by omega
        subst kc
        go_enter Tryz.func11, Tryz.ntmps11
        go_wp2_with fail
        refine HG.out.mono ?_; rintro e w1 ⟨rfl, hB⟩
        go_wp2_with fail
        go_ret3
        exact .inl ⟨by rw [H3.out, if_pos kn], rfl, hB⟩
      · go_enter Tryz.func11, Tryz.ntmps11
        go_wp2_with fail
        refine HG.out.mono ?_; rintro e w1 ⟨rfl, hB⟩
        go_wp2_with fail
        go_ret3
        exact .inl ⟨by rw [H3.out, if_pos kn], rfl, hB⟩
    · obtain ⟨m, rfl⟩ := Int.eq_ofNat_of_zero_le hN0
      have kn2 : m ≤ n0 - 4 := by omega
      obtain ⟨zs, hzs⟩ : ∃ zs : List Value, List.replicate m (Value.int .u8 0) = zs := ⟨_, rfl⟩
      have hzl : zs.length = m := by rw [← hzs]; simp
      have hmk : ∀ W : World, (Instr.makeSlice 22 (.int .u64 (m : Int)) (.int .u64 (m : Int))).run Tryz.prog W = .ok (.slice (some ⟨W.heap.size, 0, none⟩) m m) (W.alloc (.cells zs.toArray 5)) := by
        intro W
        rw [← hzs, ← made_rep]
        exact run_make_row' 22 5 (.int .u8 0) 1 Tryz.underlying22 (by kernel_rfl) rfl .u64 .u64 m (by omega) (by omega) W
      have H3' : gotB bs = some ((bs.drop 4).take m) := by rw [H3.out, if_neg kn]; rfl
      have hlen : ((bs.drop 4).take m).length = m := by simp [r0.len]; omega
      have hr1 : 4 ≠ c0 → ∀ W, Below w.heap.size w W → Rd W .u8 (some ⟨b, off + 4, none⟩) m ((bs.drop 4).take m) := fun _ W hW => (r0.below hW).sub 4 m (by omega)
      generalize (bs.drop 4).take m = ys at *
      have HR1 := Lib.hid hr1
      have HL := Lib.hid hlen
      have H4 := Lib.hid H3'
      have HR := Lib.hid r0
      have HZ := Lib.hid hzl
      have hN2 : m < 72057594037927936 := by omega
      clear hlen H3' H3 r0 hr1 hzs hzl kn hN0 hN1
      by_cases kc : c0 = 4
      · obtain rfl : n0 = 4 := by omega
        subst kc
        obtain rfl : m = 0 := by omega
        obtain rfl : zs = [] := List.eq_nil_of_length_eq_zero HZ.out
        rw [show ((0 : Nat) : Int) = 0 from rfl] at hmk
        go_enter Tryz.func11, Tryz.ntmps11
        go_wp2_with fail
        refine HG.out.mono ?_; rintro e w1 ⟨rfl, hB⟩
        go_wp2_with (refine wpList_copy (o := ⟨some 30, _, _, _, _, _⟩) rfl _ _ _ _ rfl 5 Tryz.underlying22 size_u8 (some ⟨w1.heap.size, 0, none⟩) (some ⟨b, off, none⟩) 0 0 0 0 rfl rfl w1.heap.size 0 _ 5 (Blk.new w1 5 []) [] rfl (fun h => absurd h (by simp)) (Nat.le_refl _) (by simp) ?_; intro w6 hb6 hk6)
        go_wp2_with fail
        go_ret3
        refine .inr ⟨[], w1.heap.size, (by rw [H4.out, List.eq_nil_of_length_eq_zero HL.out]), hB.size, rfl, hb6.out, below_keeps (hB.alloc hB.size _) hk6 (Nat.le_refl _) (fun i hi => by subst hi; exact hB.size)⟩
      · have hpos : ∀ W : World, Below w.heap.size w W → 0 < (ys.map (Value.int .u8)).length → ∀ j v, (ys.map (Value.int .u8))[j]? = some v → (W.alloc (.cells zs.toArray 5)).cell? ((⟨b, off + 4, none⟩ : Addr).add j) = some v := by
          intro W hW
          have r1 := HR1.out (by omega) _ (hW.alloc hW.size (.cells zs.toArray 5))
          have := cells_of_rd r1 (k := m) (Nat.le_refl _) W.heap.size 0 (some ⟨W.heap.size, 0, none⟩) (fun _ => rfl)
          rw [List.take_of_length_le (by rw [HL.out]; exact Nat.le_refl _)] at this
          intro h0
          obtain ⟨_, ad, e, h⟩ := this h0
          injection e with e
          rw [e]
          exact h
        have HP := Lib.hid hpos
        have hsp : splice zs 0 (ys.map (Value.int .u8)) = ys.map (Value.int .u8) := by
          simp only [splice, List.take_zero, List.nil_append]
          rw [List.drop_eq_nil_of_le (by rw [HZ.out, List.length_map, HL.out]; simp), List.append_nil]
        have HSP := Lib.hid hsp
        clear hpos hsp
        go_enter Tryz.func11, Tryz.ntmps11
        go_wp2_with fail
        refine HG.out.mono ?_; rintro e w1 ⟨rfl, hB⟩
        go_wp2_with (refine wpList_copy (o := ⟨some 30, _, _, _, _, _⟩) rfl _ _ _ _ rfl 5 Tryz.underlying22 size_u8 (some ⟨w1.heap.size, 0, none⟩) (some ⟨b, off + 4, none⟩) m m (n0 - 4) (c0 - 4) rfl rfl w1.heap.size 0 _ 5 (Blk.new w1 5 zs) (ys.map (Value.int .u8)) (by rw [List.length_map, HL.out]; exact (Nat.min_eq_right kn2).symm) (fun h0 => ⟨rfl, _, rfl, HP.out w1 hB h0⟩) (by rw [List.length_map, HL.out, HZ.out]; simp) (one_u8 _) ?_; intro w6 hb6 hk6)
        have hb7 := hb6.out
        rw [HSP.out] at hb7
        go_ret3
        refine .inr ⟨_, w1.heap.size, H4.out, hB.size, by rw [HL.out]; have hw : wrap64 (4 + (m : Int)) = 4 + (m : Int) := (by unfold wrap64; omega); rw [hw]; rfl, hb7, below_keeps (hB.alloc hB.size _) hk6 (Nat.le_refl _) (fun i hi => by subst hi; exact hB.size)⟩
end Go.Proofs.YtigcpjjmafpjhaaGreatDoor
