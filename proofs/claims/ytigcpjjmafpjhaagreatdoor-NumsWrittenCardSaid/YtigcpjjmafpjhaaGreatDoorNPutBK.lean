/- The walks over slices.Grow, slices.Clip, nums.PutBytes. -/
import Derived.Test.YtigcpjjmafpjhaaGreatDoorKGrow
import Derived.Lib.AppendZerosOnto
import Derived.Lib.SliceRun
namespace Go.Proofs.YtigcpjjmafpjhaaGreatDoor
open Go.RowKit
set_option linter.unusedSimpArgs false
set_option linter.unusedVariables false

/-- As MadeIn, and the block is not too long. -/
def MadeInL (w : World) (bytes : List Int) (e : Ending) (w' : World) : Prop :=
  ∃ g cells, w.heap.size ≤ g ∧ e = .returned (.slice (some ⟨g, 0, none⟩) bytes.length bytes.length) ∧ Blk w' g 5 cells ∧ cells.take bytes.length = bytes.map (Value.int .u8) ∧ cells.length ≤ maxLen ∧ Below w.heap.size w w'
set_option maxRecDepth 100000 in
set_option maxHeartbeats 1000000 in
theorem putbytes_row (A0 : Option Addr) (n0 c0 : Nat) (bs : List Int) (A1 : Option Addr) (n1 c1 : Nat) (l : List Int) (w : World) (r0 : Rd w .u8 A0 n0 bs) (l0 : n0 ≤ c0) (r1 : Rd w .u8 A1 n1 l) (hz : A1 = none → c1 = 0)
    (h0 : n0 ≤ 4194304) (h1 : n1 ≤ 4194304) :
    Calls Tryz.prog 19 #[.slice A0 n0 c0, .slice A1 n1 c1] w (MadeInL w (bs ++ be n1 4 ++ l)) := by
  have hB1 : Below w.heap.size w (w.alloc (.cells #[.int .u64 n1] 25)) := (Below.refl _ _).alloc (Nat.le_refl _) _
  have hrow := row_any A0 n0 c0 bs 4 w.heap.size 1 1 [⟨n1, by omega, by omega⟩] (w.alloc (.cells #[.int .u64 n1] 25)) (r0.below hB1) l0 (by omega) rfl (by omega) (by simp)
      (fun j hj => by obtain rfl : j = 0 := by omega
                      exact (Blk.new w 25 [.int .u64 n1]).cell 0) [(n1 : Int)] rfl
  have hrow' : Calls Tryz.prog 71 #[.slice A0 n0 c0, .int .i64 4, .slice (some ⟨w.heap.size, 0, none⟩) 1 1] (w.alloc (.cells #[.int .u64 n1] 25)) (Made w (bs ++ be n1 4)) :=
    hrow.mono fun e w' hm => by
      have hm' : Made (w.alloc (.cells #[.int .u64 n1] 25)) (bs ++ be n1 4) e w' := by simpa [flat] using hm
      obtain ⟨g, hg, he, hk, hB⟩ := hm'
      exact ⟨g, Nat.le_trans hB1.size hg, he, hk, hB1.trans (hB.mono hB1.size)⟩
  have hlen : (bs ++ be n1 4).length = n0 + 4 := by rw [List.length_append, r0.len, be_length]
  have hll := r1.len
  generalize bs ++ be n1 4 = cs at *
  have HR := Lib.hid hrow'
  have HL := Lib.hid hlen
  have HLL := Lib.hid hll
  clear hrow hrow' hlen hll hB1
  have hbig := r0.big
  have hbig1 := r1.big
  go_enter Tryz.func19, Tryz.ntmps19
  go_wp2_with fail
  refine HR.out.mono ?_
  rintro e w1 ⟨g1, hg1, rfl, hk1, hB1⟩
  rw [HL.out]
  have hgrow := grow_any w.heap.size g1 (n0 + 4) n1 cs w1 HL.out hg1 hB1.size hk1 (by omega) (by omega)
  go_wp2_with fail
  refine hgrow.mono ?_
  rintro e w2 ⟨g2, cap2, hg2, hlt2, hroom2, rfl, hown2, hB2⟩
  have hB12 := hB1.trans hB2
  have hn12 : n0 + 4 + n1 ≤ 8388612 := by omega
  obtain ⟨i0, hi, hzz⟩ := Option.map_eq_some_iff.1 info_u8n
  simp only [Prod.mk.injEq] at hzz
  obtain ⟨hz0, hz1, hz2⟩ := hzz
  have hfin : ∀ (v3 : Value) (w3 : World), w3.ownsRow w.heap.size 5 1 v3 (n0 + 4 + n1) (cs.map (Value.int .u8) ++ l.map (Value.int .u8)) → w2.grownBy w3 (Value.slice (some ⟨g2, 0, none⟩) (n0 + 4) cap2).ownBlock → (v3 = .slice none 0 0 ↔ Value.slice (some ⟨g2, 0, none⟩) (n0 + 4) cap2 = .slice none 0 0 ∧ n1 = 0) →
      ∃ g3 cap3, v3 = .slice (some ⟨g3, 0, none⟩) (n0 + 4 + n1) cap3 ∧ n0 + 4 + n1 ≤ cap3 ∧ cap3 ≤ maxLen ∧ MadeInL w (cs ++ l) (.returned (.slice (some ⟨g3, 0, none⟩) (n0 + 4 + n1) (n0 + 4 + n1))) w3 := by
    intro v3 w3 ho hg hnn
    have hlen3 : (cs ++ l).length = n0 + 4 + n1 := by rw [List.length_append, HL.out, HLL.out]
    rcases ho.2 with ⟨rfl, _⟩ | ⟨g3, cap3, cur, rfl, hb3, hh3, hc3, hm3, hs3, ht3⟩
    · exact absurd (hnn.1 rfl).1 (by simp)
    · refine ⟨g3, cap3, rfl, hc3, hm3, g3, cur.toList, hb3, by rw [hlen3], by simpa [Blk] using hh3, by rw [hlen3, List.map_append]; simpa using ht3, by rw [Array.length_toList, hs3]; omega, ?_⟩
      exact hB12.trans ⟨hg.os, hg.tape, hg.output, hg.size, fun i hi => hg.block i (Nat.lt_of_lt_of_le hi hB12.size) (fun e => by simp [Value.ownBlock] at e; omega)⟩
  have HF := Lib.hid hfin
  clear hfin
  have r2 := r1.below hB12
  cases A1 with
  | none =>
    obtain rfl := hz rfl
    obtain rfl : n1 = 0 := by
      rcases Nat.eq_zero_or_pos n1 with h | h
      · exact h
      · obtain ⟨_, _, e, _⟩ := r1.row h; cases e
    obtain rfl : l = [] := List.eq_nil_of_length_eq_zero HLL.out
    have happ : ∀ ty, (Builtin.append_ #[22, 22] ty #[.slice (some ⟨g2, 0, none⟩) (n0 + 4) cap2, .slice none 0 0]).run Tryz.prog w2 = .ok (.slice (some ⟨g2, 0, none⟩) (n0 + 4) cap2) w2 := fun ty =>
      run_append_owned_none w2 w.heap.size 22 ty 5 i0 1 Tryz.underlying22 hi _ _ _ hown2
    obtain ⟨g3, cap3, e3, hc3, hm3, hM⟩ := HF.out _ w2 (by simpa using hown2) ⟨rfl, rfl, rfl, Nat.le_refl _, fun _ _ _ => rfl⟩ (by simp)
    injection e3 with e3 _ e4
    injection e3 with e3
    injection e3 with e3
    subst e3 e4
    unfold maxLen at hm3
    have HA := Lib.hid happ
    have HM := Lib.hid hM
    clear happ hM hown2 r2 r1 r0
    go_wp2_with (at_builtin; refine Lib.wpList_append_run _ rfl _ _ _ _ rfl _ _ rfl rfl _ _ (HA.out _) ?_)
    refine (clip_any _ (n0 + 4) cap2 w2 (by omega) (by omega) (by omega) g2 rfl).mono ?_
    rintro e w4 ⟨rfl, rfl⟩
    go_wp2_with fail
    go_ret
    exact HM.out
  | some ad =>
    have hnews : ∀ j u, (l.map (Value.int .u8))[j]? = some u → w2.cell? (ad.add j) = some u := by
      intro j u hj
      have hjl : j < l.length := by
        rcases Nat.lt_or_ge j l.length with h | h
        · exact h
        · rw [List.getElem?_eq_none (by simpa using h)] at hj; cases hj
      obtain ⟨b, off, e, _, hc⟩ := r2.row (by rw [← r2.len]; omega)
      injection e with e
      subst e
      have ha : (⟨b, off, none⟩ : Addr).add j = ⟨b, off + j, none⟩ := by unfold Addr.add; split <;> simp_all
      rw [ha, hc j (by rw [← r2.len]; exact hjl)]
      simpa [hjl] using hj
    have HN := Lib.hid hnews
    have HO := Lib.hid hown2
    clear hnews hown2 r1 r0
    go_wp2_with (at_builtin; refine wpList_append_own_at w2 rfl _ _ 22 rfl w.heap.size 5 i0 (.int .u8 0) 1 1 Tryz.underlying22 hi hz0 hz1 hz2 rfl (by omega) (.slice (some ⟨g2, 0, none⟩) (n0 + 4) cap2) (n0 + 4) _ rfl HO.out ad n1 c1 (l.map (Value.int .u8)) rfl (by simp [HLL.out]) HN.out (one_u8 _) (by unfold maxLen; omega) (by omega) hB12.size ?_; intro v3 w3 hown3 hg3 hnn3 _)
    obtain ⟨g3, cap3, rfl, hc3, hm3, hM⟩ := HF.out v3 w3 hown3 hg3 hnn3
    unfold maxLen at hm3
    have HM := Lib.hid hM
    clear hM hown3
    go_wp2_with fail
    refine (clip_any _ (n0 + 4 + n1) cap3 w3 (by omega) (by omega) (by omega) g3 rfl).mono ?_
    rintro e w4 ⟨rfl, rfl⟩
    go_wp2_with fail
    go_ret
    exact HM.out
end Go.Proofs.YtigcpjjmafpjhaaGreatDoor
