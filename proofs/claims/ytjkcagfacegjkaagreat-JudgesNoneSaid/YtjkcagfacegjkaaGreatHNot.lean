/- A host that is not there: what its functions answer. -/
import Derived.Test.YtjkcagfacegjkaaGreatBase
import Derived.WalkMore
import Derived.Deep.MidRow
import Derived.Deep.DrawnRows
import Derived.Test.YtjkcagfacegjkaaGreatPart
import Derived.Test.YtjkcagfacegjkaaGreatKRes
namespace Go.Proofs.YtjkcagfacegjkaaGreat
open Go.RowKit
set_option linter.unusedSimpArgs false
set_option linter.unusedVariables false

/-- A pointer to no host, or to one that no call made. -/
def NotThere (p : Value) (w : World) : Prop := p = .pointer none ∨ ∃ b, p = .pointer (some ⟨b, 0, none⟩) ∧ b < w.heap.size ∧ w.cell? ⟨b, 68, none⟩ = some (.map none)
theorem NotThere.below {p : Value} {w w' : World} (h : NotThere p w) (hB : Below w.heap.size w w') : NotThere p w' := by
  rcases h with h | ⟨b, h, hb, hc⟩
  · exact .inl h
  · exact .inr ⟨b, h, Nat.lt_of_lt_of_le hb hB.size, (hB.cell (p := ⟨b, 68, none⟩) hb).trans hc⟩
theorem g_new_below (w : World) (o : Obj) : Below w.heap.size w (w.alloc o) := (Below.refl _ _).alloc (Nat.le_refl _) _

set_option maxRecDepth 100000 in
theorem there_not {p : Value} {w : World} (h : NotThere p w) : Calls Tryz.prog 31 #[p] w fun e w' => e = .returned (.bool false) ∧ w = w' := by
  rcases h with rfl | ⟨b, rfl, hb, hc⟩
  · have hne : ∀ W : World, Sem.run Tryz.prog (binOp BinOp.neq 46 (.map none) (.map none)) W = .ok (.bool false) W := fun W => by kernel_rfl
    go_enter Tryz.func31, Tryz.ntmps31
    go_wp2_with fail
    go_ret
    exact ⟨rfl, rfl⟩
  · have hne : ∀ W : World, Sem.run Tryz.prog (binOp BinOp.neq 46 (.map none) (.map none)) W = .ok (.bool false) W := fun W => by kernel_rfl
    go_enter Tryz.func31, Tryz.ntmps31
    go_wp2_with fail
    go_ret
    exact ⟨rfl, rfl⟩
set_option maxRecDepth 100000 in
theorem peers_not {p : Value} {w : World} (h : NotThere p w) : Calls Tryz.prog 15 #[p] w fun e w' => e = .returned (.slice none 0 0) ∧ Below w.heap.size w w' := by
  have H := Lib.hid h
  clear h
  go_enter Tryz.func15, Tryz.ntmps15
  go_wp2_with fail
  refine (there_not H.out).mono ?_
  rintro e w' ⟨rfl, rfl⟩
  go_wp2_with fail
  go_ret
  exact ⟨rfl, Below.refl _ _⟩
set_option maxRecDepth 100000 in
theorem sessions_not {p : Value} {w : World} (h : NotThere p w) : Calls Tryz.prog 16 #[p] w fun e w' => e = .returned (.slice none 0 0) ∧ Below w.heap.size w w' := by
  have H := Lib.hid h
  clear h
  go_enter Tryz.func16, Tryz.ntmps16
  go_wp2_with fail
  refine (there_not H.out).mono ?_
  rintro e w' ⟨rfl, rfl⟩
  go_wp2_with fail
  go_ret
  exact ⟨rfl, Below.refl _ _⟩
set_option maxRecDepth 100000 in
theorem gens_not {p : Value} {w : World} (h : NotThere p w) : Calls Tryz.prog 18 #[p] w fun e w' => e = .returned (.slice none 0 0) ∧ Below w.heap.size w w' := by
  have H := Lib.hid h
  clear h
  go_enter Tryz.func18, Tryz.ntmps18
  go_wp2_with fail
  refine (there_not H.out).mono ?_
  rintro e w' ⟨rfl, rfl⟩
  go_wp2_with fail
  go_ret
  exact ⟨rfl, Below.refl _ _⟩
set_option maxRecDepth 100000 in
theorem guided_not {p : Value} {w : World} (h : NotThere p w) : Calls Tryz.prog 17 #[p] w fun e w' => e = .returned (.int .i64 0) ∧ Below w.heap.size w w' := by
  have H := Lib.hid h
  clear h
  go_enter Tryz.func17, Tryz.ntmps17
  go_wp2_with fail
  refine (there_not H.out).mono ?_
  rintro e w' ⟨rfl, rfl⟩
  go_wp2_with fail
  go_ret
  exact ⟨rfl, Below.refl _ _⟩
set_option maxRecDepth 100000 in
theorem tick_not {p : Value} {w : World} (h : NotThere p w) : Calls Tryz.prog 12 #[p] w fun e w' => e = .returned (.tuple #[.slice none 0 0, .int .i64 2]) ∧ Below w.heap.size w w' := by
  have H := Lib.hid h
  clear h
  go_enter Tryz.func12, Tryz.ntmps12
  go_wp2_with fail
  refine (there_not H.out).mono ?_
  rintro e w' ⟨rfl, rfl⟩
  go_wp2_with fail
  go_ret2
  exact ⟨rfl, Below.refl _ _⟩
set_option maxRecDepth 100000 in
theorem move_not {p : Value} {w : World} (A : Option Addr) (n c : Nat) (h : NotThere p w) : Calls Tryz.prog 9 #[p, .slice A n c] w fun e w' => e = .returned (.tuple #[.slice none 0 0, .int .i64 2]) ∧ Below w.heap.size w w' := by
  have H := Lib.hid h
  clear h
  go_enter Tryz.func9, Tryz.ntmps9
  go_wp2_with fail
  refine (there_not H.out).mono ?_
  rintro e w' ⟨rfl, rfl⟩
  go_wp2_with fail
  go_ret2
  exact ⟨rfl, Below.refl _ _⟩
def zSeen : List Value := [.int .u8 0, .int .u8 0, .int .u8 0, .int .u8 0, .int .u8 0, .int .u8 0, .int .u8 0, .int .u8 0, .int .u8 0, .int .u8 0, .int .u8 0, .int .u8 0, .int .u8 0, .int .u8 0, .int .u8 0, .int .u8 0, .int .u8 0, .int .u8 0, .int .u8 0, .int .u8 0, .int .u8 0, .int .u8 0, .int .u8 0, .int .u8 0, .int .u8 0, .int .u8 0, .int .u8 0, .int .u8 0, .int .u8 0, .int .u8 0, .int .u8 0, .int .u8 0, .int .u8 0, .int .u32 0, .int .u32 0, .bool false, .int .u64 0, .int .u64 0]
def zTag : List Value := [.int .u8 0, .int .u8 0, .int .u8 0, .int .u8 0, .int .u8 0, .int .u8 0, .int .u8 0, .int .u8 0, .int .u8 0, .int .u8 0, .int .u8 0, .int .u8 0, .int .u8 0, .int .u8 0, .int .u8 0, .int .u8 0]
theorem tag_size {tcs : List Value} (h : tcs.length = 16) : (Tryz.prog.info? 32).map (·.size) = some tcs.length := by rw [h]; kernel_rfl
set_option maxRecDepth 100000 in
theorem asked_not {p : Value} {w : World} (tcs : List Value) (f : Value) (h : NotThere p w) : Calls Tryz.prog 36 #[p, .agg tcs.toArray, f] w fun e w' => e = .returned (.tuple #[.slice none 0 0, .int .i64 2]) ∧ Below w.heap.size w w' := by
  have hB := g_new_below w (.cells tcs.toArray 32)
  have H := Lib.hid (h.below hB)
  have HB := Lib.hid hB
  clear h hB
  obtain ⟨cs, hcs⟩ : ∃ cs, tcs.toArray = cs := ⟨_, rfl⟩
  rw [hcs] at H HB ⊢
  clear hcs
  go_enter Tryz.func36, Tryz.ntmps36
  go_wp2_with fail
  refine (there_not H.out).mono ?_
  rintro e w' ⟨rfl, rfl⟩
  go_wp2_with fail
  go_ret2
  exact ⟨rfl, HB.out⟩
set_option maxRecDepth 100000 in
theorem open_not {p : Value} {w : World} (tcs : List Value) (h : NotThere p w) : Calls Tryz.prog 5 #[p, .agg tcs.toArray, .int .u32 1] w fun e w' => e = .returned (.tuple #[.slice none 0 0, .int .i64 2]) ∧ Below w.heap.size w w' := by
  have hB := g_new_below w (.cells tcs.toArray 32)
  have H := Lib.hid (h.below hB)
  have HB := Lib.hid hB
  clear h hB
  obtain ⟨cs, hcs⟩ : ∃ cs, tcs.toArray = cs := ⟨_, rfl⟩
  rw [hcs] at H HB ⊢
  clear hcs
  go_enter Tryz.func5, Tryz.ntmps5
  go_wp2_with fail
  refine (there_not H.out).mono ?_
  rintro e w' ⟨rfl, rfl⟩
  go_wp2_with fail
  go_ret2
  exact ⟨rfl, HB.out⟩
set_option maxRecDepth 100000 in
theorem say_not {p : Value} {w : World} (tcs : List Value) (A : Option Addr) (n c : Nat) (hl : tcs.length = 16) (h : NotThere p w) : Calls Tryz.prog 6 #[p, .agg tcs.toArray, .slice A n c] w fun e w' => e = .returned (.tuple #[.slice none 0 0, .int .i64 2]) ∧ Below w.heap.size w w' := by
  have hB := g_new_below w (.cells tcs.toArray 32)
  have hB2 := hB.alloc hB.size (.cells #[.slice A n c] 23)
  have hm := ((Blk.new w 32 tcs).alloc (.cells #[.slice A n c] 23)).range
  have ha := fun f => asked_not tcs f (h.below hB2)
  have HM := Lib.hid hm
  have HB := Lib.hid hB2
  have HA := Lib.hid ha
  have HU := Lib.hid Tryz.underlying32
  have HSZ := Lib.hid (tag_size hl)
  clear h hB hB2 hm ha hl
  go_enter Tryz.func6, Tryz.ntmps6
  go_wp2_with (refine wpList_load_mid rfl 32 _ rfl w.heap.size 0 rfl tcs _ HM.out HU.out rfl HSZ.out ?_)
  refine (HA.out _).mono ?_
  rintro e w' ⟨rfl, hB'⟩
  have HB2 := Lib.hid (HB.out.trans (hB'.mono HB.out.size))
  clear hB'
  go_wp2_with fail
  go_ret2
  exact ⟨rfl, HB2.out⟩
set_option maxRecDepth 100000 in
theorem reg_not {p : Value} {w : World} (tcs : List Value) (hl : tcs.length = 16) (h : NotThere p w) : Calls Tryz.prog 10 #[p, .agg tcs.toArray, .int .u32 1] w fun e w' => e = .returned (.tuple #[.slice none 0 0, .int .i64 2]) ∧ Below w.heap.size w w' := by
  have hB := g_new_below w (.cells tcs.toArray 32)
  have hB2 := hB.alloc hB.size (.cells #[.int .u32 1] 25)
  have hm := ((Blk.new w 32 tcs).alloc (.cells #[.int .u32 1] 25)).range
  have ha := fun f => asked_not tcs f (h.below hB2)
  have HM := Lib.hid hm
  have HB := Lib.hid hB2
  have HA := Lib.hid ha
  have HU := Lib.hid Tryz.underlying32
  have HSZ := Lib.hid (tag_size hl)
  clear h hB hB2 hm ha hl
  go_enter Tryz.func10, Tryz.ntmps10
  go_wp2_with (refine wpList_load_mid rfl 32 _ rfl w.heap.size 0 rfl tcs _ HM.out HU.out rfl HSZ.out ?_)
  refine (HA.out _).mono ?_
  rintro e w' ⟨rfl, hB'⟩
  have HB2 := Lib.hid (HB.out.trans (hB'.mono HB.out.size))
  clear hB'
  go_wp2_with fail
  go_ret2
  exact ⟨rfl, HB2.out⟩
set_option maxRecDepth 100000 in
theorem close_not {p : Value} {w : World} (tcs : List Value) (hl : tcs.length = 16) (h : NotThere p w) : Calls Tryz.prog 7 #[p, .agg tcs.toArray] w fun e w' => e = .returned (.tuple #[.slice none 0 0, .int .i64 2]) ∧ Below w.heap.size w w' := by
  obtain ⟨q, rfl⟩ : ∃ q, p = .pointer q := by
    rcases h with rfl | ⟨b, rfl, _⟩
    · exact ⟨_, rfl⟩
    · exact ⟨_, rfl⟩
  have hB := g_new_below w (.cells #[.pointer q] 33)
  have hB2 := hB.alloc hB.size (.cells tcs.toArray 32)
  have hm := (Blk.new (w.alloc (.cells #[.pointer q] 33)) 32 tcs).range
  rw [World.size_alloc] at hm
  have hp : ((w.alloc (.cells #[.pointer q] 33)).alloc (.cells tcs.toArray 32)).cell? ⟨w.heap.size, 0, none⟩ = some (.pointer q) := ((Blk.new w 33 [.pointer q]).alloc (.cells tcs.toArray 32)).cell 0
  have ha := fun f => asked_not tcs f (h.below hB2)
  have HM := Lib.hid hm
  have HB := Lib.hid hB2
  have HA := Lib.hid ha
  have HU := Lib.hid Tryz.underlying32
  have HSZ := Lib.hid (tag_size hl)
  clear h hB hB2 hm ha hl
  go_enter Tryz.func7, Tryz.ntmps7
  go_wp2_with (refine wpList_load_mid rfl 32 _ rfl (w.heap.size + 1) 0 rfl tcs _ HM.out HU.out rfl HSZ.out ?_)
  refine (HA.out _).mono ?_
  rintro e w' ⟨rfl, hB'⟩
  have HB2 := Lib.hid (HB.out.trans (hB'.mono HB.out.size))
  clear hB'
  go_wp2_with fail
  go_ret2
  exact ⟨rfl, HB2.out⟩
set_option maxRecDepth 100000 in
theorem rekey_not {p : Value} {w : World} (tcs : List Value) (hl : tcs.length = 16) (h : NotThere p w) : Calls Tryz.prog 8 #[p, .agg tcs.toArray] w fun e w' => e = .returned (.tuple #[.slice none 0 0, .int .i64 2]) ∧ Below w.heap.size w w' := by
  obtain ⟨q, rfl⟩ : ∃ q, p = .pointer q := by
    rcases h with rfl | ⟨b, rfl, _⟩
    · exact ⟨_, rfl⟩
    · exact ⟨_, rfl⟩
  have hB := g_new_below w (.cells #[.pointer q] 33)
  have hB2 := hB.alloc hB.size (.cells tcs.toArray 32)
  have hm := (Blk.new (w.alloc (.cells #[.pointer q] 33)) 32 tcs).range
  rw [World.size_alloc] at hm
  have hp : ((w.alloc (.cells #[.pointer q] 33)).alloc (.cells tcs.toArray 32)).cell? ⟨w.heap.size, 0, none⟩ = some (.pointer q) := ((Blk.new w 33 [.pointer q]).alloc (.cells tcs.toArray 32)).cell 0
  have ha := fun f => asked_not tcs f (h.below hB2)
  have HM := Lib.hid hm
  have HB := Lib.hid hB2
  have HA := Lib.hid ha
  have HU := Lib.hid Tryz.underlying32
  have HSZ := Lib.hid (tag_size hl)
  clear h hB hB2 hm ha hl
  go_enter Tryz.func8, Tryz.ntmps8
  go_wp2_with (refine wpList_load_mid rfl 32 _ rfl (w.heap.size + 1) 0 rfl tcs _ HM.out HU.out rfl HSZ.out ?_)
  refine (HA.out _).mono ?_
  rintro e w' ⟨rfl, hB'⟩
  have HB2 := Lib.hid (HB.out.trans (hB'.mono HB.out.size))
  clear hB'
  go_wp2_with fail
  go_ret2
  exact ⟨rfl, HB2.out⟩
set_option maxRecDepth 100000 in
theorem came_not {p : Value} {w : World} (f t : Int) (A : Option Addr) (n c : Nat) (h : NotThere p w) : Calls Tryz.prog 11 #[p, .agg #[.int .u32 f, .int .u32 t, .slice A n c]] w fun e w' => e = .returned (.tuple #[.slice none 0 0, .slice none 0 0, .int .i64 2]) ∧ Below w.heap.size w w' := by
  have hB := g_new_below w (.cells #[.int .u32 f, .int .u32 t, .slice A n c] 28)
  have H := Lib.hid (h.below hB)
  have HB := Lib.hid hB
  clear h hB
  go_enter Tryz.func11, Tryz.ntmps11
  go_wp2_with fail
  refine (there_not H.out).mono ?_
  rintro e w' ⟨rfl, rfl⟩
  go_wp2_with fail
  go_ret3
  exact ⟨rfl, HB.out⟩
theorem exec_alloc_seen (W : World) (o : Oper) (ho : o.op = .alloc 66) (ev : Operand → Value) : (execOp ev o).run Tryz.prog W = .ok (.value (.pointer (some ⟨W.heap.size, 0, none⟩))) (W.alloc (.cells zSeen.toArray 66)) := by
  obtain ⟨d, op, t, p, af, g⟩ := o
  simp only at ho
  subst ho
  kernel_rfl
theorem exec_alloc_tag (W : World) (o : Oper) (ho : o.op = .alloc 32) (ev : Operand → Value) : (execOp ev o).run Tryz.prog W = .ok (.value (.pointer (some ⟨W.heap.size, 0, none⟩))) (W.alloc (.cells zTag.toArray 32)) := by
  obtain ⟨d, op, t, p, af, g⟩ := o
  simp only at ho
  subst ho
  kernel_rfl
theorem Blk.whole {w : World} {g : Nat} {t : TypeId} {cs : List Value} (h : Blk w g t cs) (ds : List Value) (hl : ds.length = cs.length) : Blk (w.setCells g 0 ds) g t ds := by
  have := Blk.setCells ds 0 w cs h (by omega)
  rwa [splice_whole cs ds hl] at this
set_option maxRecDepth 100000 in
theorem seen_not {p : Value} {w : World} (tcs : List Value) (h : NotThere p w) : Calls Tryz.prog 13 #[p, .agg tcs.toArray] w fun e w' => e = .returned (.tuple #[.agg zSeen.toArray, .int .i64 2]) ∧ Below w.heap.size w w' := by
  have hB := g_new_below w (.cells tcs.toArray 32)
  obtain ⟨w2, hw2⟩ : ∃ w2, w2 = (w.alloc (.cells tcs.toArray 32)).alloc (.cells zSeen.toArray 66) := ⟨_, rfl⟩
  obtain ⟨w3, hw3⟩ : ∃ w3, w2.setCells (w.heap.size + 1) 0 zSeen = w3 := ⟨_, rfl⟩
  have hk2 : Blk w2 (w.heap.size + 1) 66 zSeen := by
    have := Blk.new (w.alloc (.cells tcs.toArray 32)) 66 zSeen
    rw [World.size_alloc] at this
    rw [hw2]; exact this
  have hk3 : Blk w3 (w.heap.size + 1) 66 zSeen := by rw [← hw3]; exact hk2.whole zSeen rfl
  have hb2 : Below w.heap.size w w2 := by rw [hw2]; exact hB.alloc hB.size _
  have hb3 : Below w.heap.size w w3 := by rw [← hw3]; exact below_keeps hb2 (Keeps.setCells zSeen 0 w2) (Nat.le_refl _) (fun i hi => by omega)
  have HA2 : Hid (∀ (o : Oper), o.op = .alloc 66 → ∀ ev, (execOp ev o).run Tryz.prog (w.alloc (.cells tcs.toArray 32)) = .ok (.value (.pointer (some ⟨w.heap.size + 1, 0, none⟩))) w2) := Lib.hid (fun o ho ev => by
    have := exec_alloc_seen (w.alloc (.cells tcs.toArray 32)) o ho ev
    rw [World.size_alloc] at this
    rw [hw2]; exact this)
  have HTH : Hid (w2.there (w.heap.size + 1) 0 zSeen.toArray.size) := Lib.hid (hk2.there 0 _ (by simp))
  have HS : Hid ((Tryz.prog.info? 66).map (·.size) = some zSeen.toArray.size) := Lib.hid (by kernel_rfl)
  have H1 : Hid (zSeen.toArray.all (·.oneCell') = true) := Lib.hid (by kernel_rfl)
  have HW3 := Lib.hid hw3
  have HK3 := Lib.hid hk3
  have HB3 := Lib.hid hb3
  have H := Lib.hid (h.below hb2)
  clear h hB hk2 hk3 hb2 hb3 hw2 hw3
  go_enter Tryz.func13, Tryz.ntmps13
  go_wp2_with (refine wpList_value (o := ⟨some 4, .alloc 66, _, _, _, _⟩) (v := .pointer (some ⟨w.heap.size + 1, 0, none⟩)) (w' := w2) rfl (HA2.out _ rfl _) ?_)
  refine (there_not H.out).mono ?_
  rintro e w' ⟨rfl, rfl⟩
  go_wp2_with (refine wpList_store_mid rfl 66 _ _ rfl (w.heap.size + 1) 0 zSeen.toArray rfl rfl HTH.out HS.out H1.out ?_; rw [show zSeen.toArray.toList = zSeen from rfl, HW3.out])
  refine bodyPost_ret (results_row_tmp rfl _ _ (w.heap.size + 1) zSeen _ rfl HK3.out Tryz.underlying66 rfl (by kernel_rfl)) rfl ?_
  exact ⟨rfl, HB3.out⟩
set_option maxRecDepth 100000 in
theorem tag_not {p : Value} {w : World} (h : NotThere p w) : Calls Tryz.prog 14 #[p] w fun e w' => e = .returned (.agg zTag.toArray) ∧ Below w.heap.size w w' := by
  obtain ⟨w2, hw2⟩ : ∃ w2, w2 = w.alloc (.cells zTag.toArray 32) := ⟨_, rfl⟩
  obtain ⟨w3, hw3⟩ : ∃ w3, w2.setCells w.heap.size 0 zTag = w3 := ⟨_, rfl⟩
  have hk2 : Blk w2 w.heap.size 32 zTag := by rw [hw2]; exact Blk.new w 32 zTag
  have hk3 : Blk w3 w.heap.size 32 zTag := by rw [← hw3]; exact hk2.whole zTag rfl
  have hb2 : Below w.heap.size w w2 := by rw [hw2]; exact g_new_below w _
  have hb3 : Below w.heap.size w w3 := by rw [← hw3]; exact below_keeps hb2 (Keeps.setCells zTag 0 w2) (Nat.le_refl _) (fun i hi => by omega)
  have HA2 : Hid (∀ (o : Oper), o.op = .alloc 32 → ∀ ev, (execOp ev o).run Tryz.prog w = .ok (.value (.pointer (some ⟨w.heap.size, 0, none⟩))) w2) := Lib.hid (fun o ho ev => by
    rw [hw2]; exact exec_alloc_tag w o ho ev)
  have HTH : Hid (w2.there w.heap.size 0 zTag.toArray.size) := Lib.hid (hk2.there 0 _ (by simp))
  have HS : Hid ((Tryz.prog.info? 32).map (·.size) = some zTag.toArray.size) := Lib.hid (by kernel_rfl)
  have H1 : Hid (zTag.toArray.all (·.oneCell') = true) := Lib.hid (by kernel_rfl)
  have HW3 := Lib.hid hw3
  have HK3 := Lib.hid hk3
  have HB3 := Lib.hid hb3
  have H := Lib.hid (h.below hb2)
  clear h hk2 hk3 hb2 hb3 hw2 hw3
  go_enter Tryz.func14, Tryz.ntmps14
  go_wp2_with (refine wpList_value (o := ⟨some 2, .alloc 32, _, _, _, _⟩) (v := .pointer (some ⟨w.heap.size, 0, none⟩)) (w' := w2) rfl (HA2.out _ rfl _) ?_)
  refine (there_not H.out).mono ?_
  rintro e w' ⟨rfl, rfl⟩
  go_wp2_with (refine wpList_store_mid rfl 32 _ _ rfl w.heap.size 0 zTag.toArray rfl rfl HTH.out HS.out H1.out ?_; rw [show zTag.toArray.toList = zTag from rfl, HW3.out])
  refine bodyPost_ret (results_cell_row rfl _ _ w.heap.size _ _ _ _ rfl HK3.out Tryz.underlying32 rfl (by kernel_rfl)) rfl ?_
  exact ⟨rfl, HB3.out⟩
end Go.Proofs.YtjkcagfacegjkaaGreat
