/- A world that is not there: what its functions answer. -/
import Derived.Test.YtjkcagfacegjkaaGreatHNot
namespace Go.Proofs.YtjkcagfacegjkaaGreat
open Go.RowKit
set_option linter.unusedSimpArgs false
set_option linter.unusedVariables false

/-- A pointer to no world, or to one that no call made. -/
def NoWorld (q : Option Addr) (w : World) : Prop := q = none ∨ ∃ b, q = some ⟨b, 0, none⟩ ∧ b < w.heap.size ∧ w.cell? ⟨b, 54, none⟩ = some (.map none)
theorem NoWorld.below {q : Option Addr} {w w' : World} (h : NoWorld q w) (hB : Below w.heap.size w w') : NoWorld q w' := by
  rcases h with h | ⟨b, h, hb, hc⟩
  · exact .inl h
  · exact .inr ⟨b, h, Nat.lt_of_lt_of_le hb hB.size, (hB.cell (p := ⟨b, 54, none⟩) hb).trans hc⟩
theorem wthere_not {q : Option Addr} {w : World} (h : NoWorld q w) : Calls Tryz.prog 77 #[.pointer q] w fun e w' => e = .returned (.bool false) ∧ w = w' := by
  rcases h with rfl | ⟨b, rfl, hb, hc⟩
  · go_enter Tryz.func77, Tryz.ntmps77
    go_wp2_with fail
    go_ret
    exact ⟨rfl, rfl⟩
  · have hne : ∀ W : World, Sem.run Tryz.prog (binOp BinOp.neq 83 (.map none) (.map none)) W = .ok (.bool false) W := fun W => by kernel_rfl
    go_enter Tryz.func77, Tryz.ntmps77
    go_wp2_with fail
    go_ret
    exact ⟨rfl, rfl⟩
theorem right0_not {q : Option Addr} {w : World} (n : Int) (h : NoWorld q w) : Calls Tryz.prog 78 #[.pointer q, .int .u8 n] w fun e w' => e = .returned (.pointer none) ∧ w = w' := by
  have H := Lib.hid h
  clear h
  go_enter Tryz.func78, Tryz.ntmps78
  go_wp2_with fail
  refine (wthere_not H.out).mono ?_
  rintro e w' ⟨rfl, rfl⟩
  go_wp2_with fail
  go_ret
  exact ⟨rfl, rfl⟩
theorem right_not {q : Option Addr} {w : World} (n : Int) (h : NoWorld q w) : Calls Tryz.prog 24 #[.pointer q, .int .u8 n] w fun e w' => e = .returned (.bool false) ∧ w = w' := by
  have H := Lib.hid h
  clear h
  go_enter Tryz.func24, Tryz.ntmps24
  go_wp2_with fail
  refine (right0_not n H.out).mono ?_
  rintro e w' ⟨rfl, rfl⟩
  go_wp2_with fail
  go_ret
  exact ⟨rfl, rfl⟩
theorem heardw_not {q : Option Addr} {w : World} (n : Int) (h : NoWorld q w) : Calls Tryz.prog 30 #[.pointer q, .int .u8 n] w fun e w' => e = .returned (.slice none 0 0) ∧ w = w' := by
  have H := Lib.hid h
  clear h
  go_enter Tryz.func30, Tryz.ntmps30
  go_wp2_with fail
  refine (right0_not n H.out).mono ?_
  rintro e w' ⟨rfl, rfl⟩
  go_wp2_with fail
  go_ret
  exact ⟨rfl, rfl⟩
theorem broken_not {q : Option Addr} {w : World} (h : NoWorld q w) : Calls Tryz.prog 23 #[.pointer q] w fun e w' => e = .returned (.bool false) ∧ w = w' := by
  have H := Lib.hid h
  clear h
  go_enter Tryz.func23, Tryz.ntmps23
  go_wp2_with fail
  refine (wthere_not H.out).mono ?_
  rintro e w' ⟨rfl, rfl⟩
  go_wp2_with fail
  go_ret
  exact ⟨rfl, rfl⟩
theorem bag_not {q : Option Addr} {w : World} (h : NoWorld q w) : Calls Tryz.prog 29 #[.pointer q] w fun e w' => e = .returned (.slice none 0 0) ∧ w = w' := by
  have H := Lib.hid h
  clear h
  go_enter Tryz.func29, Tryz.ntmps29
  go_wp2_with fail
  refine (wthere_not H.out).mono ?_
  rintro e w' ⟨rfl, rfl⟩
  go_wp2_with fail
  go_ret
  exact ⟨rfl, rfl⟩
theorem may_not {q : Option Addr} {w : World} (h : NoWorld q w) : Calls Tryz.prog 83 #[.pointer q, .int .i64 0] w fun e w' => e = .returned (.int .i64 2) ∧ w = w' := by
  have H := Lib.hid h
  clear h
  go_enter Tryz.func83, Tryz.ntmps83
  go_wp2_with fail
  refine (wthere_not H.out).mono ?_
  rintro e w' ⟨rfl, rfl⟩
  go_wp2_with fail
  go_ret
  exact ⟨rfl, rfl⟩
theorem deliver_not {q : Option Addr} {w : World} (h : NoWorld q w) : Calls Tryz.prog 27 #[.pointer q, .int .i64 0] w fun e w' => e = .returned (.int .i64 2) ∧ w = w' := by
  have H := Lib.hid h
  clear h
  go_enter Tryz.func27, Tryz.ntmps27
  go_wp2_with fail
  refine (may_not H.out).mono ?_
  rintro e w' ⟨rfl, rfl⟩
  go_wp2_with fail
  go_ret
  exact ⟨rfl, rfl⟩
theorem send_not {q : Option Addr} {w : World} (f t : Int) (A : Option Addr) (n c : Nat) (h : NoWorld q w) : Calls Tryz.prog 28 #[.pointer q, .agg #[.int .u32 f, .int .u32 t, .slice A n c]] w fun e w' => e = .returned (.int .i64 2) ∧ Below w.heap.size w w' := by
  have hB := g_new_below w (.cells #[.int .u32 f, .int .u32 t, .slice A n c] 28)
  have H := Lib.hid (h.below hB)
  have HB := Lib.hid hB
  clear h hB
  go_enter Tryz.func28, Tryz.ntmps28
  go_wp2_with fail
  refine (wthere_not H.out).mono ?_
  rintro e w' ⟨rfl, rfl⟩
  go_wp2_with fail
  go_ret
  exact ⟨rfl, HB.out⟩
theorem asks_not {q : Option Addr} {w : World} (n : Int) (A : Option Addr) (k c : Nat) (f : Value) (h : NoWorld q w) : Calls Tryz.prog 79 #[.pointer q, .int .u8 n, .slice A k c, f] w fun e w' => e = .returned (.int .i64 2) ∧ Below w.heap.size w w' := by
  have hB := g_new_below w (.cells #[.pointer q] 77)
  have hc : (w.alloc (.cells #[.pointer q] 77)).cell? ⟨w.heap.size, 0, none⟩ = some (.pointer q) := (Blk.new w 77 [.pointer q]).cell 0
  have H := Lib.hid (h.below hB)
  have HB := Lib.hid hB
  clear h hB
  go_enter Tryz.func79, Tryz.ntmps79
  go_wp2_with fail
  refine (right0_not n H.out).mono ?_
  rintro e w' ⟨rfl, rfl⟩
  go_wp2_with fail
  refine (wthere_not H.out).mono ?_
  rintro e w' ⟨rfl, rfl⟩
  go_wp2_with fail
  go_ret
  exact ⟨rfl, HB.out⟩
theorem wtick_not {q : Option Addr} {w : World} (n : Int) (h : NoWorld q w) : Calls Tryz.prog 25 #[.pointer q, .int .u8 n] w fun e w' => e = .returned (.int .i64 2) ∧ Below w.heap.size w w' := by
  have H := Lib.hid h
  clear h
  go_enter Tryz.func25, Tryz.ntmps25
  go_wp2_with fail
  refine (asks_not n none 0 0 _ H.out).mono ?_
  rintro e w' ⟨rfl, hB⟩
  have HB := Lib.hid hB
  clear hB
  go_wp2_with fail
  go_ret
  exact ⟨rfl, HB.out⟩
theorem wopen_not {q : Option Addr} {w : World} (n a b : Int) (h : NoWorld q w) : Calls Tryz.prog 26 #[.pointer q, .int .u8 n, .int .u8 a, .int .u8 b] w fun e w' => e = .returned (.int .i64 2) ∧ Below w.heap.size w w' := by
  have hB1 := g_new_below w (.cells #[.pointer q] 77)
  have hB2 := hB1.alloc hB1.size (.cells #[.int .u8 a] 5)
  have hB3 := hB2.alloc hB2.size (.cells #[.int .u8 b] 5)
  have hB4 := hB3.alloc hB3.size (.cells #[.int .u8 a, .int .u8 b] 5)
  have hc : (((w.alloc (.cells #[.pointer q] 77)).alloc (.cells #[.int .u8 a] 5)).alloc (.cells #[.int .u8 b] 5)).cell? ⟨w.heap.size, 0, none⟩ = some (.pointer q) := (((Blk.new w 77 [.pointer q]).alloc _).alloc _).cell 0
  have k1 := ((Blk.new (w.alloc (.cells #[.pointer q] 77)) 5 [.int .u8 a]).alloc (.cells #[.int .u8 b] 5)).cell 0
  have k2 := (Blk.new ((w.alloc (.cells #[.pointer q] 77)).alloc (.cells #[.int .u8 a] 5)) 5 [.int .u8 b]).cell 0
  simp only [World.size_alloc, List.getElem?_cons_zero] at k1 k2
  have H := Lib.hid (h.below hB4)
  have HB := Lib.hid hB4
  clear h hB1 hB2 hB3 hB4
  go_enter Tryz.func26, Tryz.ntmps26
  go_wp2_with fail
  refine (asks_not n _ 2 2 _ H.out).mono ?_
  rintro e w' ⟨rfl, hB⟩
  have HB2 := Lib.hid (HB.out.trans (hB.mono HB.out.size))
  clear hB
  go_wp2_with fail
  go_ret
  exact ⟨rfl, HB2.out⟩
set_option maxRecDepth 100000 in
theorem wtag_not {q : Option Addr} {w : World} (h : NoWorld q w) : Calls Tryz.prog 164 #[.pointer q, .int .u8 1] w fun e w' => e = .returned (.tuple #[.agg zTag.toArray, .int .i64 2]) ∧ Below w.heap.size w w' := by
  obtain ⟨w2, hw2⟩ : ∃ w2, w2 = w.alloc (.cells zTag.toArray 32) := ⟨_, rfl⟩
  obtain ⟨w3, hw3⟩ : ∃ w3, w2.setCells w.heap.size 0 zTag = w3 := ⟨_, rfl⟩
  have hk2 : Blk w2 w.heap.size 32 zTag := by rw [hw2]; exact Blk.new w 32 zTag
  have hk3 : Blk w3 w.heap.size 32 zTag := by rw [← hw3]; exact hk2.whole zTag rfl
  have hb2 : Below w.heap.size w w2 := by rw [hw2]; exact g_new_below w _
  have hb3 : Below w.heap.size w w3 := by rw [← hw3]; exact below_keeps hb2 (Keeps.setCells zTag 0 w2) (Nat.le_refl _) (fun i hi => by omega)
  have HA2 : Hid (∀ (o : Oper), o.op = .alloc 32 → ∀ ev, (execOp ev o).run Tryz.prog w = .ok (.value (.pointer (some ⟨w.heap.size, 0, none⟩))) w2) := Lib.hid (fun o ho ev => by
    rw [hw2]; exact exec_alloc_tag w o ho ev)
  have HTH : Hid (w2.there w.heap.size 0 zTag.toArray.size) := Lib.hid (hk2.there 0 _ (by simp))
  have HS : Hid ((Tryz.prog.info? 32).map (·.size) = some zTag.toArray.size) := Lib.hid (by kernel_rfl)
  have H1 : Hid (zTag.toArray.all (·.oneCell') = true) := Lib.hid (by kernel_rfl)
  have HW3 := Lib.hid hw3
  have HK3 := Lib.hid hk3
  have HB3 := Lib.hid hb3
  have H := Lib.hid (h.below hb2)
  clear h hk2 hk3 hb2 hb3 hw2 hw3
  go_enter Tryz.func164, Tryz.ntmps164
  go_wp2_with (refine wpList_value (o := ⟨some 4, .alloc 32, _, _, _, _⟩) (v := .pointer (some ⟨w.heap.size, 0, none⟩)) (w' := w2) rfl (HA2.out _ rfl _) ?_)
  refine (wthere_not H.out).mono ?_
  rintro e w' ⟨rfl, rfl⟩
  go_wp2_with (refine wpList_store_mid rfl 32 _ _ rfl w.heap.size 0 zTag.toArray rfl rfl HTH.out HS.out H1.out ?_; rw [show zTag.toArray.toList = zTag from rfl, HW3.out])
  refine bodyPost_ret (results_row_tmp rfl _ _ w.heap.size zTag _ rfl HK3.out Tryz.underlying32 rfl (by kernel_rfl)) rfl ?_
  exact ⟨rfl, HB3.out⟩
set_option maxRecDepth 100000 in
theorem wseen_not {q : Option Addr} {w : World} (n to : Int) (h : NoWorld q w) : Calls Tryz.prog 167 #[.pointer q, .int .u8 n, .int .u8 to] w fun e w' => e = .returned (.tuple #[.agg zSeen.toArray, .int .i64 2]) ∧ Below w.heap.size w w' := by
  obtain ⟨w2, hw2⟩ : ∃ w2, w2 = w.alloc (.cells zSeen.toArray 66) := ⟨_, rfl⟩
  obtain ⟨w3, hw3⟩ : ∃ w3, w2.setCells w.heap.size 0 zSeen = w3 := ⟨_, rfl⟩
  have hk2 : Blk w2 w.heap.size 66 zSeen := by rw [hw2]; exact Blk.new w 66 zSeen
  have hk3 : Blk w3 w.heap.size 66 zSeen := by rw [← hw3]; exact hk2.whole zSeen rfl
  have hb2 : Below w.heap.size w w2 := by rw [hw2]; exact g_new_below w _
  have hb3 : Below w.heap.size w w3 := by rw [← hw3]; exact below_keeps hb2 (Keeps.setCells zSeen 0 w2) (Nat.le_refl _) (fun i hi => by omega)
  have HA2 : Hid (∀ (o : Oper), o.op = .alloc 66 → ∀ ev, (execOp ev o).run Tryz.prog w = .ok (.value (.pointer (some ⟨w.heap.size, 0, none⟩))) w2) := Lib.hid (fun o ho ev => by
    rw [hw2]; exact exec_alloc_seen w o ho ev)
  have HTH : Hid (w2.there w.heap.size 0 zSeen.toArray.size) := Lib.hid (hk2.there 0 _ (by simp))
  have HS : Hid ((Tryz.prog.info? 66).map (·.size) = some zSeen.toArray.size) := Lib.hid (by kernel_rfl)
  have H1 : Hid (zSeen.toArray.all (·.oneCell') = true) := Lib.hid (by kernel_rfl)
  have HW3 := Lib.hid hw3
  have HK3 := Lib.hid hk3
  have HB3 := Lib.hid hb3
  have H := Lib.hid (h.below hb2)
  clear h hk2 hk3 hb2 hb3 hw2 hw3
  go_enter Tryz.func167, Tryz.ntmps167
  go_wp2_with (refine wpList_value (o := ⟨some 6, .alloc 66, _, _, _, _⟩) (v := .pointer (some ⟨w.heap.size, 0, none⟩)) (w' := w2) rfl (HA2.out _ rfl _) ?_)
  refine (right0_not n H.out).mono ?_
  rintro e w' ⟨rfl, rfl⟩
  go_wp2_with fail
  refine (wthere_not H.out).mono ?_
  rintro e w' ⟨rfl, rfl⟩
  go_wp2_with (refine wpList_store_mid rfl 66 _ _ rfl w.heap.size 0 zSeen.toArray rfl rfl HTH.out HS.out H1.out ?_; rw [show zSeen.toArray.toList = zSeen from rfl, HW3.out])
  refine bodyPost_ret (results_row_tmp rfl _ _ w.heap.size zSeen _ rfl HK3.out Tryz.underlying66 rfl (by kernel_rfl)) rfl ?_
  exact ⟨rfl, HB3.out⟩
set_option maxRecDepth 100000 in
theorem jthere_not {q : Option Addr} {w : World} (h : NoWorld q w) : Calls Tryz.prog 70 #[.pointer q] w fun e w' => e = .returned (.bool false) ∧ Below w.heap.size w w' := by
  have HTG := Lib.hid (wtag_not h)
  have HS : Hid ((Tryz.prog.info? 32).map (·.size) = some zTag.toArray.size) := Lib.hid (by kernel_rfl)
  have H1 : Hid (zTag.toArray.all (·.oneCell') = true) := Lib.hid (by kernel_rfl)
  clear h
  go_enter Tryz.func70, Tryz.ntmps70
  go_wp2_with fail
  refine HTG.out.mono ?_
  rintro e w1 ⟨rfl, hB⟩
  obtain ⟨w2, hw2⟩ : ∃ w2, w2 = w1.alloc (.cells zTag.toArray 32) := ⟨_, rfl⟩
  obtain ⟨w3, hw3⟩ : ∃ w3, w2.setCells w1.heap.size 0 zTag = w3 := ⟨_, rfl⟩
  have hk2 : Blk w2 w1.heap.size 32 zTag := by rw [hw2]; exact Blk.new w1 32 zTag
  have hb2 : Below w.heap.size w w2 := by rw [hw2]; exact hB.alloc hB.size _
  have hb3 : Below w.heap.size w w3 := by rw [← hw3]; exact below_keeps hb2 (Keeps.setCells zTag 0 w2) (Nat.le_refl _) (fun i hi => by have := hB.size; omega)
  have HA2 : Hid (∀ (o : Oper), o.op = .alloc 32 → ∀ ev, (execOp ev o).run Tryz.prog w1 = .ok (.value (.pointer (some ⟨w1.heap.size, 0, none⟩))) w2) := Lib.hid (fun o ho ev => by
    rw [hw2]; exact exec_alloc_tag w1 o ho ev)
  have HTH : Hid (w2.there w1.heap.size 0 zTag.toArray.size) := Lib.hid (hk2.there 0 _ (by simp))
  have HW3 := Lib.hid hw3
  have HB3 := Lib.hid hb3
  clear hk2 hb2 hb3 hw2 hw3 hB
  generalize w1.heap.size = g at *
  go_wp2_with (first
    | (refine wpList_store_mid rfl 32 _ _ rfl g 0 zTag.toArray rfl rfl HTH.out HS.out H1.out ?_; rw [show zTag.toArray.toList = zTag from rfl, HW3.out])
    | (refine wpList_value (o := ⟨some 3, .alloc 32, _, _, _, _⟩) (v := .pointer (some ⟨g, 0, none⟩)) (w' := w2) rfl (HA2.out _ rfl _) ?_))
  go_ret
  exact ⟨rfl, HB3.out⟩
theorem jheard_not {q : Option Addr} {w : World} (h : NoWorld q w) : Calls Tryz.prog 19 #[.pointer q] w fun e w' => e = .returned (.bool false) ∧ Below w.heap.size w w' := by
  have H := Lib.hid (jthere_not h)
  clear h
  go_enter Tryz.func19, Tryz.ntmps19
  go_wp2_with fail
  refine H.out.mono ?_
  rintro e w1 ⟨rfl, hB⟩
  have HB := Lib.hid hB
  clear hB
  go_wp2_with fail
  go_ret
  exact ⟨rfl, HB.out⟩
end Go.Proofs.YtjkcagfacegjkaaGreat
