/- The walk over alive. -/
import Derived.Test.YtpoljlmkeldbpaaNAlive
import Derived.Laws.IdiomStrings
namespace Go.Proofs.Ytpoljlmkeldbpaa
open Go.RowKit
set_option linter.unusedSimpArgs false
set_option linter.unusedVariables false

theorem conv_blk {w : World} {g n c : Nat} {t : TypeId} {cells : List Value} (h : Blk w g t cells) (l : List UInt8) (hn : l.length = n) (hl : cells.take n = l.map (fun b => Value.int .u8 (b.toNat : Int))) :
    (convert 23 9 (.slice (some ⟨g, 0, none⟩) n c)).run Try.prog w = .ok (.string ⟨l.toArray⟩) w := by
  subst hn
  refine run_convert_bytes_back (P := Try.prog) w 23 9 5 ⟨g, 0, none⟩ c l Try.underlying23 Try.underlying5 Try.underlying9 (fun j hj => ?_)
  have ha : (⟨g, 0, none⟩ : Addr).add j = ⟨g, j, none⟩ := by unfold Addr.add; split <;> simp_all
  rw [ha, h.cell j, show cells[j]? = (cells.take l.length)[j]? by simp [List.getElem?_take, hj], hl]
  simp [hj]
theorem long5_eq (w : World) : Sem.run Try.prog (Op.equalIn 10000 29 (.agg #[.int .u64 5, .int .u64 0, .int .u64 0, .int .u64 0]) (.agg #[.int .u64 5, .int .u64 0, .int .u64 0, .int .u64 0])) w = .ok true w := by kernel_rfl
attribute [local go_sem] long5_eq
set_option maxRecDepth 100000 in
set_option maxHeartbeats 4000000 in
theorem alive_true (w : World) : Calls Try.prog 8 #[] w fun e w' => e = .returned (.bool true) ∧ Below w.heap.size w w' := by
  go_enter Try.func8, Try.ntmps8
  go_wp2_with fail
  refine (a_five w).mono ?_
  rintro e w1 ⟨g, hg, rfl, hk, hB⟩
  have hlen : five.length = 33 := rfl
  rw [hlen]
  go_wp2_with fail
  refine (a_long1 w1 g hk).mono ?_
  rintro e w2 ⟨rfl, hB2⟩
  have hk2 := hk.below hB2 hk.lt
  have hBw2 := hB.trans (hB2.mono hB.size)
  go_wp2_with (refine wpList_value (o := ⟨some 2, .alloc 29, _, _, _, _⟩) (v := .pointer (some ⟨w2.heap.size, 0, none⟩)) (w' := w2.alloc (.cells ((List.replicate 4 (0 : Int)).map (Value.int .u64)).toArray 29)) rfl (by kernel_rfl) ?_)
  have hn2 := Blk.new w2 29 [.int .u64 5, .int .u64 0, .int .u64 0, .int .u64 0]
  have hB2a := new_below w2 (.cells #[.int .u64 5, .int .u64 0, .int .u64 0, .int .u64 0] 29)
  have hk2a := hk2.below hB2a hk2.lt
  have hBw2a := hBw2.trans (hB2a.mono hBw2.size)
  have hgn : w.heap.size ≤ w2.heap.size := hBw2.size
  clear hB2a hk2 hBw2 hB2 hB hk
  generalize hN : w2.heap.size = N at *
  change Calls _ _ _ (w2.alloc (.cells #[.int .u64 5, .int .u64 0, .int .u64 0, .int .u64 0] 29)) _
  generalize w2.alloc (.cells #[.int .u64 5, .int .u64 0, .int .u64 0, .int .u64 0] 29) = w2a at *
  clear hN
  refine (a_long2 w2a g hk2a).mono ?_
  rintro e w3 ⟨rfl, hB3⟩
  have hn3 := hn2.below hB3 hn2.lt
  have hBw3 := hBw2a.trans (hB3.mono hBw2a.size)
  clear hn2 hBw2a hB3 hk2a
  go_wp2_with (refine wpList_value (o := ⟨some 4, .alloc 29, _, _, _, _⟩) (v := .pointer (some ⟨w3.heap.size, 0, none⟩)) (w' := w3.alloc (.cells ((List.replicate 4 (0 : Int)).map (Value.int .u64)).toArray 29)) rfl (by kernel_rfl) ?_)
  have hB3a := new_below w3 (.cells #[.int .u64 0, .int .u64 0, .int .u64 0, .int .u64 0] 29)
  have hn3a := hn3.below hB3a hn3.lt
  have hBw3a := hBw3.trans (hB3a.mono hBw3.size)
  have hsz : w3.heap.size + 1 = (w3.alloc (.cells #[.int .u64 0, .int .u64 0, .int .u64 0, .int .u64 0] 29)).heap.size := by simp
  clear hB3a hn3 hBw3
  generalize w3.alloc (.cells #[.int .u64 0, .int .u64 0, .int .u64 0, .int .u64 0] 29) = w3a at *
  rw [hsz]
  refine (a_get3 w3a).mono ?_
  rintro e w4 ⟨rfl, hB4⟩
  have hn4 := hn3a.below hB4 hn3a.lt
  have hBw4 := hBw3a.trans (hB4.mono hBw3a.size)
  clear hsz hn3a hBw3a hB4
  go_wp2_with fail
  refine (a_get1 w4).mono ?_
  rintro e w5 ⟨rfl, hB5⟩
  have hn5 := hn4.below hB5 hn4.lt
  have hBw5 := hBw4.trans (hB5.mono hBw4.size)
  clear hn4 hBw4 hB5
  go_wp2_with fail
  refine (a_get9 w5).mono ?_
  rintro e w6 ⟨rfl, hB6⟩
  have hn6 := hn5.below hB6 hn5.lt
  have hBw6 := hBw5.trans (hB6.mono hBw5.size)
  clear hn5 hBw5 hB6
  go_wp2_with fail
  refine (a_gb7 w6).mono ?_
  rintro e w7 ⟨gl, rfl, hgl, hkl, hB7⟩
  have hn7 := hn6.below hB7 hn6.lt
  have hBw7 := hBw6.trans (hB7.mono hBw6.size)
  clear hn6 hBw6 hB7 hgl
  go_wp2_with fail
  refine (a_gb5 w7).mono ?_
  rintro e w8 ⟨rfl, hB8⟩
  have hn8 := hn7.below hB8 hn7.lt
  have hkl8 := hkl.below hB8 hkl.lt
  have hBw8 := hBw7.trans (hB8.mono hBw7.size)
  clear hn7 hBw7 hB8 hkl
  have z0 := hn8.cell 0
  have z1 := hn8.cell 1
  have z2 := hn8.cell 2
  have z3 := hn8.cell 3
  have l0 := hkl8.cell 0
  have l1 := hkl8.cell 1
  simp only [List.getElem?_cons_zero, List.getElem?_cons_succ] at z0 z1 z2 z3 l0 l1
  have hcv : (convert 23 9 (.slice (some ⟨gl, 0, none⟩) 2 2)).run Try.prog w8 = .ok (.string ⟨#[7, 8]⟩) w8 := conv_blk hkl8 [7, 8] rfl rfl
  go_wp2_with fail
  refine (a_put w8).mono ?_
  rintro e w9 ⟨g9, hg9, rfl, hk9, hB9⟩
  have hlen9 : ([9, 1, 2] : List Int).length = 3 := rfl
  rw [hlen9]
  have hcv9 : (convert 23 9 (.slice (some ⟨g9, 0, none⟩) 3 3)).run Try.prog w9 = .ok (.string ⟨#[9, 1, 2]⟩) w9 := conv_blk hk9 [9, 1, 2] rfl rfl
  have hBw9 := hBw8.trans (hB9.mono hBw8.size)
  clear z0 z1 z2 z3 l0 l1 hcv hn8 hkl8 hBw8 hB9
  go_wp2_with fail
  refine (a_pb w9).mono ?_
  rintro e wa ⟨ga, ca, hga, rfl, hka, hta, hBa⟩
  have hlena : ([1, 0, 0, 0, 2, 7, 7] : List Int).length = 7 := rfl
  rw [hlena] at hta ⊢
  have hcva : (convert 23 9 (.slice (some ⟨ga, 0, none⟩) 7 7)).run Try.prog wa = .ok (.string ⟨#[1, 0, 0, 0, 2, 7, 7]⟩) wa := conv_blk hka [1, 0, 0, 0, 2, 7, 7] rfl hta
  have hBwa := hBw9.trans (hBa.mono hBw9.size)
  clear hBa hBw9 hcv9
  go_wp2_with fail
  go_ret
  exact ⟨rfl, hBwa⟩
end Go.Proofs.Ytpoljlmkeldbpaa
