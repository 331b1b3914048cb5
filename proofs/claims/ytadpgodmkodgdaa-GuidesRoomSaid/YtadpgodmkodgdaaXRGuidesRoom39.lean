/- Arrays of whole numbers, compared; A table of guides in memory; the walks over the questions that place asks. -/
import Derived.Test.YtadpgodmkodgdaaBase
import Derived.Stop.BytesEq
import Derived.Test.YtadpgodmkodgdaaXRGuidesRoom38
import Derived.Deep.MidRow
namespace Go.Proofs.Ytadpgodmkodgdaa
open Go.RowKit
set_option linter.unusedSimpArgs false
set_option linter.unusedVariables false
theorem all_range_int : ∀ (xs ys : List Int), xs.length = ys.length → (List.range xs.length).all (fun i => xs.getD i 0 == ys.getD i 0) = (xs == ys)
  | [], [], _ => rfl
  | x :: xs, y :: ys, h => by
    have ih := all_range_int xs ys (by simpa using h)
    simp only [List.length_cons, List.range_succ_eq_map, List.all_cons, List.all_map, List.getD_cons_zero]
    have : ((List.range xs.length).all ((fun i => (x :: xs).getD i 0 == (y :: ys).getD i 0) ∘ Nat.succ)) = (List.range xs.length).all (fun i => xs.getD i 0 == ys.getD i 0) := by
      congr 1
    rw [this, ih]
    simp [List.cons_beq_cons]
  | [], _ :: _, h => by simp at h
  | _ :: _, [], h => by simp at h
section
variable {P : Program} (w : World)
theorem run_equalIn_ints (d : Nat) (t e : TypeId) (n : Nat) (k : IntKind) (ht : P.underlying t = some (.array n e)) (he : P.underlying e = some (.int k)) (hsz : ∀ w, (sizeOf e).run P w = .ok 1 w)
    (xs ys : List Int) (hx : xs.length = n) (hy : ys.length = n) :
    (Op.equalIn (d + 2) t (.agg (xs.map (Value.int k)).toArray) (.agg (ys.map (Value.int k)).toArray)).run P w = .ok (xs == ys) w := by
  rw [← all_range_int xs ys (hx.trans hy.symm), hx, List.range_eq_range', Op.equalIn]
  simp only [Sem.run_bind, run_underlying ht, Result.andThen_ok, hsz, Std.Legacy.Range.forIn_eq_forIn_range', Std.Legacy.Range.size, Nat.sub_zero, Nat.add_sub_cancel, Nat.div_one]
  have hl : ∀ i ∈ List.range' 0 n 1, i < n := fun i hi => by simpa using (List.mem_range'_1.1 hi).2
  generalize List.range' 0 n 1 = l at hl ⊢
  induction l with
  | nil => simp
  | cons i l ih =>
    have hi : i < n := hl i (by simp)
    have px : (part e (xs.map (Value.int k)).toArray (i * 1)).run P w = .ok (Value.int k (xs.getD i 0)) w := by
      simp [part, isAgg, run_underlying he, List.getD, List.getElem?_eq_getElem (show i < xs.length by omega)]
    have py : (part e (ys.map (Value.int k)).toArray (i * 1)).run P w = .ok (Value.int k (ys.getD i 0)) w := by
      simp [part, isAgg, run_underlying he, List.getD, List.getElem?_eq_getElem (show i < ys.length by omega)]
    have pe : (Op.equalIn (d + 1) e (Value.int k (xs.getD i 0)) (Value.int k (ys.getD i 0))).run P w = .ok (xs.getD i 0 == ys.getD i 0) w := by
      rw [run_equalIn_int w d e k k _ _ he]
      first | done | simp
    simp only [List.forIn_cons, Sem.run_bind, px, py, pe, Result.andThen_ok, List.all_cons]
    cases hb : (xs.getD i 0 == ys.getD i 0)
    · simp
    · simp only [Bool.not_true, Bool.false_eq_true, if_false, Sem.run_pure, Result.andThen_ok, Bool.true_and]
      exact ih fun j hj => hl j (by simp [hj])
end
end Go.Proofs.Ytadpgodmkodgdaa

namespace Go.Proofs.Ytadpgodmkodgdaa
open Go.RowKit
set_option linter.unusedSimpArgs false
set_option linter.unusedVariables false

/-- One who is guided, in cells; a table's. -/
def gdC (e : Gd) : List Value := e.tag.map (Value.int .u8) ++ [.int .u32 e.spot, .int .u32 e.ticks]
def tabC (a : List Gd) : List Value := (a.map gdC).flatten ++ [.int .i64 1]
theorem gdC_length {e : Gd} (h : e.tag.length = 16) : (gdC e).length = 18 := by simp [gdC, h]
theorem flat_at : ∀ (a : List Gd), (∀ e ∈ a, e.tag.length = 16) → ∀ (j k : Nat) (e : Gd), a[j]? = some e → k < 18 → ((a.map gdC).flatten)[18 * j + k]? = (gdC e)[k]?
  | [], _, j, k, e, h, _ => by simp at h
  | x :: a, ht, 0, k, e, h, hk => by
    simp only [List.getElem?_cons_zero, Option.some.injEq] at h
    subst h
    rw [List.map_cons, List.flatten_cons, List.getElem?_append_left (by rw [gdC_length (ht x (by simp))]; omega)]
    congr 1; omega
  | x :: a, ht, j + 1, k, e, h, hk => by
    rw [List.map_cons, List.flatten_cons, List.getElem?_append_right (by rw [gdC_length (ht x (by simp))]; omega), gdC_length (ht x (by simp))]
    rw [show 18 * (j + 1) + k - 18 = 18 * j + k by omega]
    exact flat_at a (fun e he => ht e (by simp [he])) j k e (by simpa using h) hk
/-- A table in memory. -/
structure TabAt (w : World) (T : Nat) (a : List Gd) : Prop where
  blk : Blk w T 63 (tabC a)
  len : a.length = 8
  tags : ∀ e ∈ a, e.tag.length = 16
theorem TabAt.row {w : World} {T : Nat} {a : List Gd} (h : TabAt w T a) {j : Nat} {e : Gd} (he : a[j]? = some e) : w.rangeAt T (18 * j) (gdC e) := fun k v hv => by
  have hk : k < 18 := by
    have := (List.getElem?_eq_some_iff.1 hv).1
    rwa [gdC_length (h.tags e (List.mem_of_getElem? he))] at this
  rw [h.blk.cell, tabC, List.getElem?_append_left, flat_at a h.tags j k e he hk]
  · exact hv
  · have h1 := flat_at a h.tags j k e he hk
    rw [hv] at h1
    exact (List.getElem?_eq_some_iff.1 h1).1
theorem TabAt.below {w w' : World} {T : Nat} {a : List Gd} (h : TabAt w T a) (hB : Below w.heap.size w w') : TabAt w' T a := ⟨h.blk.below hB h.blk.lt, h.len, h.tags⟩
/-- What a box of one who is guided tells. -/
theorem gd_box {w : World} {g : Nat} {t : TypeId} {e : Gd} (h : Blk w g t (gdC e)) (ht : e.tag.length = 16) : w.rangeAt g 0 (e.tag.map (Value.int .u8)) ∧ w.cell? ⟨g, 16, none⟩ = some (.int .u32 e.spot) ∧ w.cell? ⟨g, 17, none⟩ = some (.int .u32 e.ticks) := by
  refine ⟨fun j v hv => ?_, ?_, ?_⟩
  · have hj := (List.getElem?_eq_some_iff.1 hv).1
    rw [Nat.zero_add, h.cell, gdC, List.getElem?_append_left hj]; exact hv
  · rw [h.cell, gdC, List.getElem?_append_right (by simp [ht])]; simp [ht]
  · rw [h.cell, gdC, List.getElem?_append_right (by simp [ht])]; simp [ht]

set_option maxRecDepth 100000 in
set_option maxHeartbeats 1000000 in
theorem isfree_any (e : Gd) (w : World) (ht : e.tag.length = 16) (h0 : 0 ≤ e.ticks) : Calls Try.prog 31 #[.agg (gdC e).toArray] w fun x w' => x = .returned (.bool (free e)) ∧ Below w.heap.size w w' := by
  have hk := Blk.new w 60 (gdC e)
  obtain ⟨_, _, h3⟩ := gd_box hk ht
  have hB : Below w.heap.size w (w.alloc (.cells (gdC e).toArray 60)) := (Below.refl _ _).alloc (Nat.le_refl _) _
  obtain ⟨X, hX⟩ : ∃ X, gdC e = X := ⟨_, rfl⟩
  have HD : Hid (free e = decide (e.ticks = 0)) := Lib.hid rfl
  rw [hX] at h3 hB ⊢
  generalize hW : w.alloc (.cells X.toArray 60) = w1 at *
  have HB := Lib.hid hB
  obtain ⟨t, ht'⟩ : ∃ t, e.ticks = t := ⟨_, rfl⟩
  rw [ht'] at h3 HD
  clear hk hB hX ht' h0
  by_cases h : t = 0
  · subst h
    go_enter Try.func31, Try.ntmps31
    go_wp2_with (refine wpList_value (o := ⟨some 1, .box 60 _, _, _, _, _⟩) (v := .pointer (some ⟨w.heap.size, 0, none⟩)) (w' := w.alloc (.cells X.toArray 60)) rfl (by rfl) ?_; rw [hW])
    go_ret
    exact ⟨ret_bool (by rw [HD.out]; rfl), HB.out⟩
  · go_enter Try.func31, Try.ntmps31
    go_wp2_with (refine wpList_value (o := ⟨some 1, .box 60 _, _, _, _, _⟩) (v := .pointer (some ⟨w.heap.size, 0, none⟩)) (w' := w.alloc (.cells X.toArray 60)) rfl (by rfl) ?_; rw [hW])
    go_ret
    exact ⟨ret_bool (by rw [HD.out]; simp [h]), HB.out⟩
/-- The load of a row out of the middle of a block, under a guard that lets it. -/
theorem wpList_load_want {P : Program} {ops : Array Oper} {rest : List Oper} {op : Oper} {a : Act} {w : World} {Q : Exit → Act → World → Prop} (hw : Region.wanted op (yielded ops a.tmps) = true) (ty : TypeId) (x : Operand) (ho : op.op = .load ty x)
    (b o : Nat) (hx : a.eval x = .pointer (some ⟨b, o, none⟩)) (cs : List Value) (d : TypeDesc) (hc : w.rangeAt b o cs)
    (hu : P.underlying ty = some d) (hd : d.isRow = true) (hi : (P.info? ty).map (·.size) = some cs.length)
    (h : wpList P ops Q rest (a.put op.dst (.agg cs.toArray)) w) : wpList P ops Q (op :: rest) a w :=
  wpList_step fun K hK => by rw [if_pos hw]; exact wp_load_mid ty x ho b o hx cs d hc hu hd hi (hK _ _ h)
theorem size_u8g : ∀ w, (sizeOf 5).run Try.prog w = .ok 1 w := fun w => by kernel_rfl
theorem tag_eq (f g : List Int) (hf : f.length = 16) (hg : g.length = 16) (w : World) : Sem.run Try.prog (Op.equalIn 10000 23 (.agg (f.map (Value.int .u8)).toArray) (.agg (g.map (Value.int .u8)).toArray)) w = .ok (f == g) w := by
  have := run_equalIn_ints (P := Try.prog) w 9998 23 5 16 .u8 Try.underlying23 Try.underlying5 size_u8g f g hf hg
  simpa using this

set_option maxRecDepth 100000 in
set_option maxHeartbeats 2000000 in
theorem istag_any (e : Gd) (tag : List Int) (X : Nat) (w : World) (ht : e.tag.length = 16) (hg : tag.length = 16) (h0 : 0 ≤ e.ticks) (hX : w.rangeAt X 0 (tag.map (Value.int .u8))) :
    Calls Try.prog 30 #[.agg (gdC e).toArray, .pointer (some ⟨X, 0, none⟩)] w fun x w' => x = .returned (.bool (isTag tag e)) ∧ Below w.heap.size w w' := by
  have hk := Blk.new w 60 (gdC e)
  obtain ⟨h1, _, h3⟩ := gd_box hk ht
  have hX1 := World.rangeAt_alloc hX (.cells (gdC e).toArray 60)
  have hB : Below w.heap.size w (w.alloc (.cells (gdC e).toArray 60)) := (Below.refl _ _).alloc (Nat.le_refl _) _
  have heq := tag_eq e.tag tag ht hg
  have hs1 : (Try.prog.info? 23).map (·.size) = some (e.tag.map (Value.int .u8)).length := by rw [List.length_map, ht]; kernel_rfl
  have hs2 : (Try.prog.info? 23).map (·.size) = some (tag.map (Value.int .u8)).length := by rw [List.length_map, hg]; kernel_rfl
  have hu : Try.prog.underlying 23 = some (.array 16 5) := Try.underlying23
  obtain ⟨Y, hY⟩ : ∃ Y, gdC e = Y := ⟨_, rfl⟩
  have HD : Hid (isTag tag e = (decide (0 < e.ticks) && (e.tag == tag))) := Lib.hid (by unfold isTag Gd.on; rw [Bool.eq_iff_iff]; simp)
  rw [hY] at h1 h3 hX1 hB ⊢
  generalize hW : w.alloc (.cells Y.toArray 60) = w1 at *
  obtain ⟨t, ht'⟩ : ∃ t, e.ticks = t := ⟨_, rfl⟩
  rw [ht'] at h3 HD
  generalize (e.tag == tag) = q at *
  generalize e.tag.map (Value.int .u8) = F at *
  generalize tag.map (Value.int .u8) = G at *
  have HB := Lib.hid hB
  have H1 := Lib.hid h1
  have HX1 := Lib.hid hX1
  have HS1 := Lib.hid hs1
  have HS2 := Lib.hid hs2
  have HU := Lib.hid hu
  clear hk hB hY ht' h0 h1 hX1 hX hs1 hs2 hu
  by_cases h : 0 < t
  · go_enter Try.func30, Try.ntmps30
    go_wp2_with (first
      | (refine wpList_value (o := ⟨some 2, .box 60 _, _, _, _, _⟩) (v := .pointer (some ⟨w.heap.size, 0, none⟩)) (w' := w.alloc (.cells Y.toArray 60)) rfl (by rfl) ?_; rw [hW])
      | (refine wpList_load_want (by rfl) 23 _ rfl w.heap.size 0 rfl F _ H1.out HU.out rfl HS1.out ?_)
      | (refine wpList_load_want (by rfl) 23 _ rfl X 0 rfl G _ HX1.out HU.out rfl HS2.out ?_))
    go_ret
    exact ⟨ret_bool (by rw [HD.out]; simp [h]), HB.out⟩
  · go_enter Try.func30, Try.ntmps30
    go_wp2_with (first
      | (refine wpList_value (o := ⟨some 2, .box 60 _, _, _, _, _⟩) (v := .pointer (some ⟨w.heap.size, 0, none⟩)) (w' := w.alloc (.cells Y.toArray 60)) rfl (by rfl) ?_; rw [hW]))
    go_ret
    exact ⟨ret_bool (by rw [HD.out, decide_eq_false (show ¬ 0 < t by omega)]; rfl), HB.out⟩
end Go.Proofs.Ytadpgodmkodgdaa
