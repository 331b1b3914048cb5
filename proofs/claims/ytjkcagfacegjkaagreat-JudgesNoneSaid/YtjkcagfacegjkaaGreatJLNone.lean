/- The walk over the law JudgesNone. -/
import Derived.Test.YtjkcagfacegjkaaGreatJPairs
namespace Go.Proofs.YtjkcagfacegjkaaGreat
open Go.RowKit
set_option linter.unusedSimpArgs false
set_option linter.unusedVariables false

theorem zero_world_len (w : World) : (w.alloc (.cells #[.int .u64 0, .int .u64 0, .int .u64 0, .int .u64 0, .int .u64 0, .int .u64 0, .int .u64 0, .int .u64 0, .int .u64 0, .int .u64 0, .int .u64 0, .int .u64 0, .slice none 0 0, .int .i64 0, .int .u8 0, .int .u8 0, .int .u8 0, .int .u8 0, .int .u8 0, .int .u8 0, .int .u8 0, .int .u8 0, .int .u8 0, .int .u8 0, .int .u8 0, .int .u8 0, .int .u8 0, .int .u8 0, .int .u8 0, .int .u8 0, .int .u8 0, .int .u8 0, .int .u8 0, .int .u8 0, .int .u8 0, .int .u8 0, .int .u8 0, .int .u8 0, .int .u8 0, .int .u8 0, .int .u8 0, .int .u8 0, .int .u8 0, .int .u8 0, .int .u8 0, .int .u8 0, .slice none 0 0, .slice none 0 0, .pointer none, .pointer none, .pointer none, .pointer none, .pointer none, .pointer none, .map none, .slice none 0 0, .slice none 0 0, .bool false] 86)).cell? ⟨w.heap.size, 54, none⟩ = some (.map none) :=
  (Blk.new w 86 [.int .u64 0, .int .u64 0, .int .u64 0, .int .u64 0, .int .u64 0, .int .u64 0, .int .u64 0, .int .u64 0, .int .u64 0, .int .u64 0, .int .u64 0, .int .u64 0, .slice none 0 0, .int .i64 0, .int .u8 0, .int .u8 0, .int .u8 0, .int .u8 0, .int .u8 0, .int .u8 0, .int .u8 0, .int .u8 0, .int .u8 0, .int .u8 0, .int .u8 0, .int .u8 0, .int .u8 0, .int .u8 0, .int .u8 0, .int .u8 0, .int .u8 0, .int .u8 0, .int .u8 0, .int .u8 0, .int .u8 0, .int .u8 0, .int .u8 0, .int .u8 0, .int .u8 0, .int .u8 0, .int .u8 0, .int .u8 0, .int .u8 0, .int .u8 0, .int .u8 0, .int .u8 0, .slice none 0 0, .slice none 0 0, .pointer none, .pointer none, .pointer none, .pointer none, .pointer none, .pointer none, .map none, .slice none 0 0, .slice none 0 0, .bool false]).cell 54
set_option maxRecDepth 100000 in
set_option maxHeartbeats 16000000 in
theorem jnone_at (n : Int) (m : Nat) (w : World) (hm : n.tmod 2 = m) (hm2 : m < 2) :
    Calls Tryz.prog 4 #[.int .u8 n] w fun e w' => e = .returned (.bool true) ∧ Below w.heap.size w w' := by
  have k1 := zero_world_len w
  have k2 : Blk ((w.alloc (.cells #[.int .u64 0, .int .u64 0, .int .u64 0, .int .u64 0, .int .u64 0, .int .u64 0, .int .u64 0, .int .u64 0, .int .u64 0, .int .u64 0, .int .u64 0, .int .u64 0, .slice none 0 0, .int .i64 0, .int .u8 0, .int .u8 0, .int .u8 0, .int .u8 0, .int .u8 0, .int .u8 0, .int .u8 0, .int .u8 0, .int .u8 0, .int .u8 0, .int .u8 0, .int .u8 0, .int .u8 0, .int .u8 0, .int .u8 0, .int .u8 0, .int .u8 0, .int .u8 0, .int .u8 0, .int .u8 0, .int .u8 0, .int .u8 0, .int .u8 0, .int .u8 0, .int .u8 0, .int .u8 0, .int .u8 0, .int .u8 0, .int .u8 0, .int .u8 0, .int .u8 0, .int .u8 0, .slice none 0 0, .slice none 0 0, .pointer none, .pointer none, .pointer none, .pointer none, .pointer none, .pointer none, .map none, .slice none 0 0, .slice none 0 0, .bool false] 86)).alloc (.cells #[.pointer none, .pointer (some ⟨w.heap.size, 0, none⟩)] 77)) (w.heap.size + 1) 77 [.pointer none, .pointer (some ⟨w.heap.size, 0, none⟩)] := by
    have := Blk.new (w.alloc (.cells #[.int .u64 0, .int .u64 0, .int .u64 0, .int .u64 0, .int .u64 0, .int .u64 0, .int .u64 0, .int .u64 0, .int .u64 0, .int .u64 0, .int .u64 0, .int .u64 0, .slice none 0 0, .int .i64 0, .int .u8 0, .int .u8 0, .int .u8 0, .int .u8 0, .int .u8 0, .int .u8 0, .int .u8 0, .int .u8 0, .int .u8 0, .int .u8 0, .int .u8 0, .int .u8 0, .int .u8 0, .int .u8 0, .int .u8 0, .int .u8 0, .int .u8 0, .int .u8 0, .int .u8 0, .int .u8 0, .int .u8 0, .int .u8 0, .int .u8 0, .int .u8 0, .int .u8 0, .int .u8 0, .int .u8 0, .int .u8 0, .int .u8 0, .int .u8 0, .int .u8 0, .int .u8 0, .slice none 0 0, .slice none 0 0, .pointer none, .pointer none, .pointer none, .pointer none, .pointer none, .pointer none, .map none, .slice none 0 0, .slice none 0 0, .bool false] 86)) 77 [.pointer none, .pointer (some ⟨w.heap.size, 0, none⟩)]
    rwa [World.size_alloc] at this
  have hB1 : Below w.heap.size w (w.alloc (.cells #[.int .u64 0, .int .u64 0, .int .u64 0, .int .u64 0, .int .u64 0, .int .u64 0, .int .u64 0, .int .u64 0, .int .u64 0, .int .u64 0, .int .u64 0, .int .u64 0, .slice none 0 0, .int .i64 0, .int .u8 0, .int .u8 0, .int .u8 0, .int .u8 0, .int .u8 0, .int .u8 0, .int .u8 0, .int .u8 0, .int .u8 0, .int .u8 0, .int .u8 0, .int .u8 0, .int .u8 0, .int .u8 0, .int .u8 0, .int .u8 0, .int .u8 0, .int .u8 0, .int .u8 0, .int .u8 0, .int .u8 0, .int .u8 0, .int .u8 0, .int .u8 0, .int .u8 0, .int .u8 0, .int .u8 0, .int .u8 0, .int .u8 0, .int .u8 0, .int .u8 0, .int .u8 0, .slice none 0 0, .slice none 0 0, .pointer none, .pointer none, .pointer none, .pointer none, .pointer none, .pointer none, .map none, .slice none 0 0, .slice none 0 0, .bool false] 86)) := g_new_below w _
  have hB : Below w.heap.size w ((w.alloc (.cells #[.int .u64 0, .int .u64 0, .int .u64 0, .int .u64 0, .int .u64 0, .int .u64 0, .int .u64 0, .int .u64 0, .int .u64 0, .int .u64 0, .int .u64 0, .int .u64 0, .slice none 0 0, .int .i64 0, .int .u8 0, .int .u8 0, .int .u8 0, .int .u8 0, .int .u8 0, .int .u8 0, .int .u8 0, .int .u8 0, .int .u8 0, .int .u8 0, .int .u8 0, .int .u8 0, .int .u8 0, .int .u8 0, .int .u8 0, .int .u8 0, .int .u8 0, .int .u8 0, .int .u8 0, .int .u8 0, .int .u8 0, .int .u8 0, .int .u8 0, .int .u8 0, .int .u8 0, .int .u8 0, .int .u8 0, .int .u8 0, .int .u8 0, .int .u8 0, .int .u8 0, .int .u8 0, .slice none 0 0, .slice none 0 0, .pointer none, .pointer none, .pointer none, .pointer none, .pointer none, .pointer none, .map none, .slice none 0 0, .slice none 0 0, .bool false] 86)).alloc (.cells #[.pointer none, .pointer (some ⟨w.heap.size, 0, none⟩)] 77)) := hB1.alloc hB1.size _
  have hno : NoWorld (some ⟨w.heap.size, 0, none⟩) ((w.alloc (.cells #[.int .u64 0, .int .u64 0, .int .u64 0, .int .u64 0, .int .u64 0, .int .u64 0, .int .u64 0, .int .u64 0, .int .u64 0, .int .u64 0, .int .u64 0, .int .u64 0, .slice none 0 0, .int .i64 0, .int .u8 0, .int .u8 0, .int .u8 0, .int .u8 0, .int .u8 0, .int .u8 0, .int .u8 0, .int .u8 0, .int .u8 0, .int .u8 0, .int .u8 0, .int .u8 0, .int .u8 0, .int .u8 0, .int .u8 0, .int .u8 0, .int .u8 0, .int .u8 0, .int .u8 0, .int .u8 0, .int .u8 0, .int .u8 0, .int .u8 0, .int .u8 0, .int .u8 0, .int .u8 0, .int .u8 0, .int .u8 0, .int .u8 0, .int .u8 0, .int .u8 0, .int .u8 0, .slice none 0 0, .slice none 0 0, .pointer none, .pointer none, .pointer none, .pointer none, .pointer none, .pointer none, .map none, .slice none 0 0, .slice none 0 0, .bool false] 86)).alloc (.cells #[.pointer none, .pointer (some ⟨w.heap.size, 0, none⟩)] 77)) :=
    NoWorld.below (.inr ⟨_, rfl, by simp, k1⟩) (g_new_below _ _)
  obtain ⟨q, hq, hnq⟩ : ∃ q, [Value.pointer none, .pointer (some ⟨w.heap.size, 0, none⟩)][m]? = some (.pointer q) ∧ NoWorld q ((w.alloc (.cells #[.int .u64 0, .int .u64 0, .int .u64 0, .int .u64 0, .int .u64 0, .int .u64 0, .int .u64 0, .int .u64 0, .int .u64 0, .int .u64 0, .int .u64 0, .int .u64 0, .slice none 0 0, .int .i64 0, .int .u8 0, .int .u8 0, .int .u8 0, .int .u8 0, .int .u8 0, .int .u8 0, .int .u8 0, .int .u8 0, .int .u8 0, .int .u8 0, .int .u8 0, .int .u8 0, .int .u8 0, .int .u8 0, .int .u8 0, .int .u8 0, .int .u8 0, .int .u8 0, .int .u8 0, .int .u8 0, .int .u8 0, .int .u8 0, .int .u8 0, .int .u8 0, .int .u8 0, .int .u8 0, .int .u8 0, .int .u8 0, .int .u8 0, .int .u8 0, .int .u8 0, .int .u8 0, .slice none 0 0, .slice none 0 0, .pointer none, .pointer none, .pointer none, .pointer none, .pointer none, .pointer none, .map none, .slice none 0 0, .slice none 0 0, .bool false] 86)).alloc (.cells #[.pointer none, .pointer (some ⟨w.heap.size, 0, none⟩)] 77)) := by
    rcases m with _ | _ | m
    · exact ⟨_, rfl, .inl rfl⟩
    · exact ⟨_, rfl, hno⟩
    · omega
  have c0 := (k2.cell m).trans hq
  have HB := Lib.hid hB
  have HN := Lib.hid hnq
  have i0 : (0 : Int) ≤ (m : Int) := by omega
  have i1 : (m : Int) < 2 := by omega
  have hw0 : IntKind.u8.wrap (m : Int) = (m : Int) := IntWalk.u8_in _ (by omega)
  clear k1 k2 hB1 hB hno hq hnq
  go_enter Tryz.func4, Tryz.ntmps4
  go_wp2_with fail
  refine (jheard_not HN.out).mono ?_
  rintro e v0 ⟨rfl, hB⟩
  have HN1 := Lib.hid (HN.out.below hB)
  have HB1 := Lib.hid (HB.out.trans (hB.mono HB.out.size))
  clear hB
  go_wp2_with fail
  refine (shared_not q _ HN1.out).mono ?_
  rintro e v1 ⟨rfl, hB⟩
  have HN2 := Lib.hid (HN1.out.below hB)
  have HB2 := Lib.hid (HB1.out.trans (hB.mono HB1.out.size))
  clear hB
  go_wp2_with fail
  refine (thereall_not q _ HN2.out).mono ?_
  rintro e v2 ⟨rfl, hB⟩
  have HN3 := Lib.hid (HN2.out.below hB)
  have HB3 := Lib.hid (HB2.out.trans (hB.mono HB2.out.size))
  clear hB
  go_wp2_with fail
  refine (fine_not HN3.out).mono ?_
  rintro e v3 ⟨rfl, hB⟩
  have HN4 := Lib.hid (HN3.out.below hB)
  have HB4 := Lib.hid (HB3.out.trans (hB.mono HB3.out.size))
  clear hB
  go_wp2_with fail
  refine (broken_not HN4.out).mono ?_
  rintro e v4 ⟨rfl, rfl⟩
  go_wp2_with fail
  refine (right_not n HN4.out).mono ?_
  rintro e v5 ⟨rfl, rfl⟩
  go_wp2_with fail
  refine (wtick_not n HN4.out).mono ?_
  rintro e v6 ⟨rfl, hB⟩
  have HN7 := Lib.hid (HN4.out.below hB)
  have HB7 := Lib.hid (HB4.out.trans (hB.mono HB4.out.size))
  clear hB
  go_wp2_with fail
  refine (wopen_not n n n HN7.out).mono ?_
  rintro e v7 ⟨rfl, hB⟩
  have HN8 := Lib.hid (HN7.out.below hB)
  have HB8 := Lib.hid (HB7.out.trans (hB.mono HB7.out.size))
  clear hB
  go_wp2_with fail
  refine (deliver_not HN8.out).mono ?_
  rintro e v8 ⟨rfl, rfl⟩
  go_wp2_with fail
  refine (send_not 0 0 none 0 0 HN8.out).mono ?_
  rintro e v9 ⟨rfl, hB⟩
  have HN10 := Lib.hid (HN8.out.below hB)
  have HB10 := Lib.hid (HB8.out.trans (hB.mono HB8.out.size))
  clear hB
  go_wp2_with fail
  refine (bag_not HN10.out).mono ?_
  rintro e v10 ⟨rfl, rfl⟩
  go_wp2_with fail
  refine (heardw_not n HN10.out).mono ?_
  rintro e v11 ⟨rfl, rfl⟩
  go_wp2_with fail
  go_ret
  exact ⟨rfl, HB10.out⟩
theorem judgesNone_walk (n : Int) (w : World) (wn : (Lit.int .u8 n).wf = true) : Calls Tryz.prog 4 #[.int .u8 n] w fun e w' => e = .returned (.bool true) ∧ Below w.heap.size w w' := by
  obtain ⟨h0, h1⟩ := wf_bounds_u8 wn
  exact jnone_at n (n % 2).toNat w (by rw [Int.tmod_eq_emod_of_nonneg h0]; omega) (by omega)
end Go.Proofs.YtjkcagfacegjkaaGreat
