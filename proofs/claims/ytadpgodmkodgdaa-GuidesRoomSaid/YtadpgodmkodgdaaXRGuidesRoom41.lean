/- A table of guides: place, Put, Room, Get; A table of guides: one of it written anew; rows built, stored and cleared. -/
import Derived.Test.YtadpgodmkodgdaaXRGuidesRoom40
import Derived.Test.YtadpgodmkodgdaaXRGuidesRoom4
import Derived.Deep.RegionHeld3
import Derived.Deep.DrawnRows
namespace Go.Proofs.Ytadpgodmkodgdaa
open Go.RowKit
set_option linter.unusedSimpArgs false
set_option linter.unusedVariables false

theorem new_belowG (w : World) (o : Obj) : Below w.heap.size w (w.alloc o) := (Below.refl _ _).alloc (Nat.le_refl _) _
/-- What place tells. -/
def PlaceRes (a : List Gd) (tag : List Int) (r : Int) (is : Bool) : Prop :=
  (is = true ∧ ∃ (i : Nat) (e : Gd), r = (i : Int) ∧ i < 8 ∧ a[i]? = some e ∧ isTag tag e = true) ∨ (is = false ∧ (∀ e ∈ a, isTag tag e = false) ∧ IdxRes a free r)
theorem TabAt.made {w : World} {T : Nat} {a : List Gd} (h : TabAt w T a) : w.cell? ⟨T, 144, none⟩ = some (.int .i64 1) := by
  have hl : ((a.map gdC).flatten).length = 144 := by
    have : ∀ (l : List Gd), (∀ e ∈ l, e.tag.length = 16) → ((l.map gdC).flatten).length = 18 * l.length := fun l hl => by
      induction l with
      | nil => rfl
      | cons x l ih => rw [List.map_cons, List.flatten_cons, List.length_append, gdC_length (hl x (by simp)), ih (fun e he => hl e (by simp [he])), List.length_cons]; omega
    rw [this a h.tags, h.len]
  rw [h.blk.cell, tabC, List.getElem?_append_right (by omega), hl]
  rfl
theorem there_yes {T : Nat} {a : List Gd} {w : World} (h : TabAt w T a) : Calls Try.prog 17 #[.pointer (some ⟨T, 0, none⟩)] w fun e w' => e = .returned (.bool true) ∧ w = w' := by
  have hm := h.made
  clear h
  go_enter Try.func17, Try.ntmps17
  go_wp2_with fail
  go_ret
  exact ⟨rfl, rfl⟩

set_option maxRecDepth 100000 in
set_option maxHeartbeats 2000000 in
theorem place_any (T : Nat) (a : List Gd) (tag : List Int) (w : World) (hT : TabAt w T a) (hok : TabOk a) (hg : tag.length = 16) :
    Calls Try.prog 18 #[.pointer (some ⟨T, 0, none⟩), .agg (tag.map (Value.int .u8)).toArray] w fun e w' => ∃ r is, e = .returned (.tuple #[.int .i64 r, .bool is]) ∧ PlaceRes a tag r is ∧ Below w.heap.size w w' := by
  have hB := new_belowG w (.cells (tag.map (Value.int .u8)).toArray 23)
  have hk := Blk.new w 23 (tag.map (Value.int .u8))
  have hi := idxtag_any T w.heap.size a tag _ (hT.below hB) hok (fun j v hv => by rw [Nat.zero_add, hk.cell]; exact hv) hk.lt hg
  have hT1 := hT.below hB
  have HT := Lib.hid hT1
  have HOK := Lib.hid hok
  have HI := Lib.hid hi
  have HB := Lib.hid hB
  obtain ⟨cs, hcs⟩ : ∃ cs, (tag.map (Value.int .u8)).toArray = cs := ⟨_, rfl⟩
  rw [hcs] at HI HB HT ⊢
  clear hB hk hi hT1 hT hok hg hcs
  go_enter Try.func18, Try.ntmps18
  go_wp2_with fail
  refine HI.out.mono ?_; rintro e w1 ⟨r, rfl, hr, hB1⟩
  have HB1 := Lib.hid (HB.out.trans (hB1.mono HB.out.size))
  have HT1 := Lib.hid (HT.out.below hB1)
  clear hB1
  rcases hr with ⟨i, x, rfl, h8, hx, hq⟩ | ⟨rfl, hno⟩
  · have hge : (0 : Int) ≤ (i : Int) := by omega
    go_wp2_with fail
    go_ret2
    exact ⟨_, _, rfl, .inl ⟨rfl, i, x, rfl, h8, hx, hq⟩, HB1.out⟩
  · have hf := idxfree_any T a w1 HT1.out HOK.out
    have HF := Lib.hid hf
    clear hf
    go_wp2_with fail
    refine HF.out.mono ?_; rintro e w2 ⟨r, rfl, hr, hB2⟩
    have HB2 := Lib.hid (HB1.out.trans (hB2.mono HB1.out.size))
    clear hB2
    go_wp2_with fail
    go_ret2
    exact ⟨_, _, rfl, .inr ⟨rfl, hno, hr⟩, HB2.out⟩

/-- What Room tells. -/
def roomN (a : List Gd) (tag : List Int) : Int := if (∃ e ∈ a, isTag tag e = true) ∨ (∃ e ∈ a, free e = true) then 256 else 0
theorem place_none {a : List Gd} {tag : List Int} {r : Int} {is : Bool} (h : PlaceRes a tag r is) : (r < 0 ∧ is = false ∧ r = -1 ∧ ¬ ((∃ e ∈ a, isTag tag e = true) ∨ ∃ e ∈ a, free e = true)) ∨
    (∃ (i : Nat) (e : Gd), r = (i : Int) ∧ i < 8 ∧ a[i]? = some e ∧ ((is = true ∧ isTag tag e = true) ∨ (is = false ∧ free e = true ∧ ¬ ∃ e ∈ a, isTag tag e = true))) := by
  rcases h with ⟨hi, i, e, h1, h2, h3, h4⟩ | ⟨hi, hno, hf⟩
  · exact .inr ⟨i, e, h1, h2, h3, .inl ⟨hi, h4⟩⟩
  · have hn : ¬ ∃ e ∈ a, isTag tag e = true := fun ⟨e, he, h⟩ => by rw [hno e he] at h; cases h
    rcases hf with ⟨i, e, h1, h2, h3, h4⟩ | ⟨h1, h2⟩
    · exact .inr ⟨i, e, h1, h2, h3, .inr ⟨hi, h4, hn⟩⟩
    · refine .inl ⟨by omega, hi, h1, ?_⟩
      rintro (h | ⟨e, he, h⟩)
      · exact hn h
      · rw [h2 e he] at h; cases h

set_option maxRecDepth 100000 in
set_option maxHeartbeats 1000000 in
theorem room_any (T : Nat) (a : List Gd) (tag : List Int) (w : World) (hT : TabAt w T a) (hok : TabOk a) (hg : tag.length = 16) :
    Calls Try.prog 16 #[.pointer (some ⟨T, 0, none⟩), .agg (tag.map (Value.int .u8)).toArray] w fun e w' => e = .returned (.int .u32 (roomN a tag)) ∧ Below w.heap.size w w' := by
  have HP := Lib.hid (fun W (hB : Below w.heap.size w W) => place_any T a tag W (hT.below hB) hok hg)
  have HT := Lib.hid hT
  have hsz : (Try.prog.info? 23).map (·.size) = some (tag.map (Value.int .u8)).length := by rw [List.length_map, hg]; kernel_rfl
  have hu : Try.prog.underlying 23 = some (.array 16 5) := Try.underlying23
  have hbx := (Blk.new w 23 (tag.map (Value.int .u8))).range
  have hBn := new_belowG w (.cells (tag.map (Value.int .u8)).toArray 23)
  have HT1 := Lib.hid (hT.below hBn)
  obtain ⟨L, hL⟩ : ∃ L, tag.map (Value.int .u8) = L := ⟨_, rfl⟩
  rw [hL] at HP hsz hbx hBn HT1 ⊢
  have HSZ := Lib.hid hsz
  have HU := Lib.hid hu
  have HBX := Lib.hid hbx
  have HBN := Lib.hid hBn
  clear hsz hu hbx hBn hL
  have HR : Hid (roomN a tag = if (∃ e ∈ a, isTag tag e = true) ∨ (∃ e ∈ a, free e = true) then 256 else 0) := Lib.hid rfl
  obtain ⟨R, hR⟩ : ∃ R, roomN a tag = R := ⟨_, rfl⟩
  rw [hR] at HR ⊢
  clear hT hok hg hR
  go_enter Try.func16, Try.ntmps16
  go_wp2_with fail
  refine (there_yes HT1.out).mono ?_; rintro e w1 ⟨rfl, rfl⟩
  go_wp2_with (refine wpList_load_mid rfl 23 _ rfl w.heap.size 0 rfl L _ HBX.out HU.out rfl HSZ.out ?_)
  refine (HP.out _ HBN.out).mono ?_; rintro e w2 ⟨r, is, rfl, hr, hB2⟩
  have HB2 := Lib.hid (HBN.out.trans (hB2.mono HBN.out.size))
  clear hB2
  rcases place_none hr with ⟨h1, rfl, rfl, h3⟩ | ⟨i, x, rfl, h8, hx, hq⟩
  · clear hr
    rw [if_neg h3] at HR
    obtain rfl := HR.out
    clear HR h3
    go_wp2_with fail
    go_ret
    exact ⟨rfl, HB2.out⟩
  · have h3 : (∃ e ∈ a, isTag tag e = true) ∨ (∃ e ∈ a, free e = true) := by
      have hm := List.mem_of_getElem? hx
      rcases hq with ⟨_, h⟩ | ⟨_, h, _⟩
      · exact .inl ⟨x, hm, h⟩
      · exact .inr ⟨x, hm, h⟩
    rw [if_pos h3] at HR
    obtain rfl := HR.out
    have hge : ¬ (i : Int) < 0 := by omega
    clear HR h3 hr hx hq
    go_wp2_with fail
    go_ret
    exact ⟨rfl, HB2.out⟩

/-- What Get tells. -/
def GetIs (a : List Gd) (tag : List Int) (s e : Int) : Prop := (e = 0 ∧ ∃ x ∈ a, isTag tag x = true ∧ s = x.spot) ∨ (e = 7 ∧ s = 0 ∧ ¬ ∃ x ∈ a, isTag tag x = true)

set_option maxRecDepth 100000 in
set_option maxHeartbeats 1000000 in
theorem get_tab (T : Nat) (a : List Gd) (tag : List Int) (w : World) (hT : TabAt w T a) (hok : TabOk a) (hg : tag.length = 16) :
    Calls Try.prog 9 #[.pointer (some ⟨T, 0, none⟩), .agg (tag.map (Value.int .u8)).toArray] w fun e w' => ∃ s E, e = .returned (.tuple #[.int .u32 s, .int .i64 E]) ∧ GetIs a tag s E ∧ Below w.heap.size w w' := by
  have HP := Lib.hid (fun W (hB : Below w.heap.size w W) => place_any T a tag W (hT.below hB) hok hg)
  have HT := Lib.hid hT
  have hsz : (Try.prog.info? 23).map (·.size) = some (tag.map (Value.int .u8)).length := by rw [List.length_map, hg]; kernel_rfl
  have hu : Try.prog.underlying 23 = some (.array 16 5) := Try.underlying23
  have hbx := (Blk.new w 23 (tag.map (Value.int .u8))).range
  have hBn := new_belowG w (.cells (tag.map (Value.int .u8)).toArray 23)
  have HT1 := Lib.hid (hT.below hBn)
  obtain ⟨L, hL⟩ : ∃ L, tag.map (Value.int .u8) = L := ⟨_, rfl⟩
  rw [hL] at HP hsz hbx hBn HT1 ⊢
  have HSZ := Lib.hid hsz
  have HU := Lib.hid hu
  have HBX := Lib.hid hbx
  have HBN := Lib.hid hBn
  clear hsz hu hbx hBn hL
  clear hT hok hg
  go_enter Try.func9, Try.ntmps9
  go_wp2_with fail
  refine (there_yes HT1.out).mono ?_; rintro e w1 ⟨rfl, rfl⟩
  go_wp2_with (refine wpList_load_mid rfl 23 _ rfl w.heap.size 0 rfl L _ HBX.out HU.out rfl HSZ.out ?_)
  refine (HP.out _ HBN.out).mono ?_; rintro e w2 ⟨r, is, rfl, hr, hB2⟩
  have HB2 := Lib.hid (HBN.out.trans (hB2.mono HBN.out.size))
  have HT2 := Lib.hid (HT1.out.below hB2)
  clear hB2
  rcases place_none hr with ⟨h1, rfl, rfl, h3⟩ | ⟨i, x, rfl, h8, hx, ⟨rfl, hq⟩ | ⟨rfl, hq, hno⟩⟩
  · go_wp2_with fail
    go_ret2
    exact ⟨_, _, rfl, .inr ⟨rfl, rfl, fun h => h3 (.inl h)⟩, HB2.out⟩
  · have hrow := HT2.out.row' hx rfl
    have hspot : w2.cell? ⟨T, i * 18 + 16, none⟩ = some (.int .u32 x.spot) := by
      refine hrow 16 _ ?_
      rw [gdC, List.getElem?_append_right (by simp [HT2.out.tags x (List.mem_of_getElem? hx)])]
      simp [HT2.out.tags x (List.mem_of_getElem? hx)]
    have h0 : (0 : Int) ≤ (i : Int) := by omega
    have h8' : (i : Int) < 8 := by omega
    have HX := Lib.hid hx
    clear hrow hr hx
    go_wp2_with fail
    go_ret2
    exact ⟨_, _, rfl, .inl ⟨rfl, x, List.mem_of_getElem? HX.out, hq, rfl⟩, HB2.out⟩
  · go_wp2_with fail
    go_ret2
    exact ⟨_, _, rfl, .inr ⟨rfl, rfl, hno⟩, HB2.out⟩
end Go.Proofs.Ytadpgodmkodgdaa

namespace Go.Proofs.Ytadpgodmkodgdaa
open Go.RowKit
set_option linter.unusedSimpArgs false
set_option linter.unusedVariables false

theorem flat_len : ∀ (l : List Gd), (∀ e ∈ l, e.tag.length = 16) → ((l.map gdC).flatten).length = 18 * l.length
  | [], _ => rfl
  | x :: l, h => by
    rw [List.map_cons, List.flatten_cons, List.length_append, gdC_length (h x (by simp)), flat_len l (fun e he => h e (by simp [he])), List.length_cons]; omega
theorem gdC_one (e : Gd) : ∀ v ∈ gdC e, v.oneCell' = true := by
  intro v hv
  simp only [gdC, List.mem_append, List.mem_map, List.mem_cons, List.not_mem_nil, or_false] at hv
  rcases hv with ⟨_, _, rfl⟩ | rfl | rfl <;> rfl
/-- A table's cells about a place. -/
theorem tab_split {a : List Gd} {i : Nat} {x : Gd} (hx : a[i]? = some x) (ht : ∀ e ∈ a, e.tag.length = 16) :
    ∃ A B : List Value, A.length = 18 * i ∧ tabC a = A ++ (gdC x ++ B) ∧ ∀ e', tabC (a.set i e') = A ++ (gdC e' ++ B) := by
  have hi : i < a.length := (List.getElem?_eq_some_iff.1 hx).1
  have hxe : a[i] = x := (List.getElem?_eq_some_iff.1 hx).2
  have hsplit : a = a.take i ++ x :: a.drop (i + 1) := by rw [← hxe, ← List.drop_eq_getElem_cons hi, List.take_append_drop]
  refine ⟨((a.take i).map gdC).flatten, ((a.drop (i + 1)).map gdC).flatten ++ [.int .i64 1], ?_, ?_, fun e' => ?_⟩
  · rw [flat_len _ (fun e he => ht e (List.mem_of_mem_take he)), List.length_take, Nat.min_eq_left (by omega)]
  · have := congrArg tabC hsplit
    rw [this]
    simp [tabC]
  · rw [List.set_eq_take_append_cons_drop, if_pos hi]
    simp [tabC]
theorem splice_midG {A X Y B : List Value} {o : Nat} (ho : o = A.length) (h : Y.length = X.length) : splice (A ++ (X ++ B)) o Y = A ++ (Y ++ B) := by
  subst ho
  have e1 : (A ++ (X ++ B)).drop (A.length + Y.length) = B := by
    rw [h, ← List.length_append, ← List.append_assoc, List.drop_left]
  rw [splice, List.take_left, e1]
theorem tags_set {a : List Gd} {i : Nat} {e' : Gd} (h : ∀ e ∈ a, e.tag.length = 16) (he : e'.tag.length = 16) : ∀ e ∈ a.set i e', e.tag.length = 16 := fun e hm => by
  rcases List.mem_or_eq_of_mem_set hm with hm | rfl
  · exact h e hm
  · exact he
theorem TabAt.put {w : World} {T : Nat} {a : List Gd} (h : TabAt w T a) {i o : Nat} {x e' : Gd} (hx : a[i]? = some x) (ht : e'.tag.length = 16) (ho : o = i * 18) : TabAt (w.setCells T o (gdC e')) T (a.set i e') := by
  obtain ⟨A, B, hA, h1, h2⟩ := tab_split hx h.tags
  have hi : i < a.length := (List.getElem?_eq_some_iff.1 hx).1
  have hl : (tabC a).length = 145 := by rw [tabC, List.length_append, flat_len a h.tags, h.len]; rfl
  have hb := Blk.setCells (gdC e') o w (tabC a) h.blk (by rw [hl, gdC_length ht]; have := h.len; omega)
  rw [h1, splice_midG (by omega) (by rw [gdC_length ht, gdC_length (h.tags x (List.mem_of_getElem? hx))]), ← h2] at hb
  exact ⟨hb, by simpa using h.len, tags_set h.tags ht⟩
theorem gd_set17 (x : Gd) (v : Int) (h : x.tag.length = 16) : (gdC x).set 17 (.int .u32 v) = gdC ⟨x.tag, x.spot, v⟩ := by
  rw [gdC, List.set_append, if_neg (by simp [h]), List.length_map, h]
  rfl
theorem TabAt.ticked {w : World} {T : Nat} {a : List Gd} (h : TabAt w T a) {i o : Nat} {x : Gd} (hx : a[i]? = some x) (v : Int) (ho : o = i * 18 + 17) : TabAt (w.setCell ⟨T, o, none⟩ (.int .u32 v)) T (a.set i ⟨x.tag, x.spot, v⟩) := by
  obtain ⟨A, B, hA, h1, h2⟩ := tab_split hx h.tags
  have hxl := h.tags x (List.mem_of_getElem? hx)
  have hb := h.blk.put o (.int .u32 v)
  rw [h1, List.set_append, if_neg (by omega), List.set_append, if_pos (by rw [gdC_length hxl]; omega), show o - A.length = 17 by omega, gd_set17 x v hxl, ← h2] at hb
  exact ⟨hb, by simpa using h.len, tags_set h.tags hxl⟩
theorem TabAt.keep {w w' : World} {T : Nat} {a : List Gd} {M : Nat → Prop} (h : TabAt w T a) (hk : Keeps M w w') (hn : ¬ M T) : TabAt w' T a := ⟨h.blk.keep hk hn, h.len, h.tags⟩
theorem TabAt.drew {w : World} {T : Nat} {a : List Gd} (h : TabAt w T a) : TabAt w.drew T a := ⟨h.blk.drew, h.len, h.tags⟩
/-- A place's cells are there. -/
theorem TabAt.there {w : World} {T : Nat} {a : List Gd} (h : TabAt w T a) {i o n : Nat} (hi : i < 8) (ho : o = i * 18) (hn : n ≤ 18) : w.there T o n :=
  h.blk.there o n (by rw [tabC, List.length_append, flat_len a h.tags, h.len]; simp; omega)

theorem list16 {tag : List Int} (h : tag.length = 16) : ∃ x0 x1 x2 x3 x4 x5 x6 x7 x8 x9 x10 x11 x12 x13 x14 x15, tag = [x0, x1, x2, x3, x4, x5, x6, x7, x8, x9, x10, x11, x12, x13, x14, x15] := by
  match tag, h with
  | [x0, x1, x2, x3, x4, x5, x6, x7, x8, x9, x10, x11, x12, x13, x14, x15], _ => exact ⟨x0, x1, x2, x3, x4, x5, x6, x7, x8, x9, x10, x11, x12, x13, x14, x15, rfl⟩
theorem run_build_gd (tag : List Int) (s k : Int) (h : tag.length = 16) (W : World) :
    (Instr.build 60 #[(0, .agg (tag.map (Value.int .u8)).toArray), (1, .int .u32 s), (2, .int .u32 k)]).run Try.prog W = .ok (.agg (gdC ⟨tag, s, k⟩).toArray) W := by
  obtain ⟨x0, x1, x2, x3, x4, x5, x6, x7, x8, x9, x10, x11, x12, x13, x14, x15, rfl⟩ := list16 h
  kernel_rfl

section
variable {P : Program} {ops : Array Oper} {a : Act} {w : World} {Q : Exit → Act → World → Prop}
theorem yieldsIf_build {S : World → Prop} {op : Oper} (hw : Region.wanted op (yielded ops a.tmps) = true) (ty : TypeId) (parts : Array (Nat × Operand)) (ho : op.op = .build ty parts) (v : Value)
    (hr : ∀ W, (Instr.build ty (parts.map fun (i, x) => (i, a.eval x))).run P W = .ok v W) : YieldsIf P ops S op v a :=
  .inl ⟨hw, fun w _ => by
    unfold execOp
    simp only [ho, Sem.run_bind, Sem.run_pure, Result.andThen_ok, hr]⟩
theorem step_store_mid {o : Oper} {K : Act → World → Prop} {E : Prop} (hgd : o.guard = none) (ty : TypeId) (x y : Operand) (ho : o.op = .store ty x y)
    (b off : Nat) (cells : Array Value) (hx : a.eval x = .pointer (some ⟨b, off, none⟩)) (hy : a.eval y = .agg cells)
    (ht : w.there b off cells.size) (hi : (P.info? ty).map (·.size) = some cells.size) (h1 : cells.all (·.oneCell') = true)
    (h : K (a.put o.dst undef) (w.setCells b off cells.toList)) : if Region.wanted o (yielded ops a.tmps) = true then Oper.wp P o a w K Q else E := by
  have hw : Region.wanted o (yielded ops a.tmps) = true := by simp [Region.wanted, hgd]
  rw [if_pos hw]
  exact wp_store_mid ty x y ho b off cells hx hy ht hi h1 h
end

/-- clear of one element. -/
theorem run_clear_one {P : Program} (w : World) (t e ty : TypeId) (z : Value) (ht : P.underlying t = some (.slice e)) (hv : ∀ w, (zeroValue e).run P w = .ok z w) (h1 : ∀ v ∈ z.cells.toList, v.oneCell' = true) (b o c : Nat)
    (hth : w.there b o z.cells.size) : (Builtin.clear_ #[t] ty #[.slice (some ⟨b, o, none⟩) 1 c]).run P w = .ok (.tuple #[]) (w.setCells b o z.cells.toList) := by
  have hzc : (Builtin.zeroCells z.cells 1).toList = z.cells.toList := by
    simp only [Builtin.zeroCells, Nat.one_mul]
    apply List.ext_getElem
    · simp
    · intro i h1 h2
      have h3 : i < z.cells.size := by simpa using h2
      simp [Nat.mod_eq_of_lt h3, h3]
  have hst := run_storeCells_cells (P := P) b o z.cells.toList 0 w (fun j hj => by simpa using (hth j (by simpa using hj)).1) (fun j hj => by simpa using (hth j (by simpa using hj)).2) h1
  simp only [Nat.add_zero] at hst
  simp [Builtin.clear_, run_underlying ht, hv, hzc, hst]
end Go.Proofs.Ytadpgodmkodgdaa
