/- A table of guides: place, Put, Room, Get. -/
import Derived.Test.YtlmlklaleooliaaGIdx
import Derived.Test.YtlmlklaleooliaaPart
namespace Go.Proofs.Ytlmlklaleooliaa
open Go.RowKit
set_option linter.unusedSimpArgs false
set_option linter.unusedVariables false

theorem new_belowG (w : World) (o : Obj) : Below w.heap.size w (w.alloc o) := (Below.refl _ _).alloc (Nat.le_refl _) _
/-- What place tells. -/
def PlaceRes (a : List Gd) (tag : List Int) (r : Int) (is : Bool) : Prop :=
  (is = true ∧ ∃ (i : Nat) (e : Gd), r = (i : Int) ∧ i < 8 ∧ a[i]? = some e ∧ isTag tag e = true) ∨ (is = false ∧ (∀ e ∈ a, isTag tag e = false) ∧ IdxRes a free r)
theorem TabAt.made {w : World} {T : Nat} {a : List Gd} (h : TabAt w T a) : w.cell? ⟨T, 144, none⟩ = some (.int .i64 1) := by
  have hl : ((a.map gdC).flatten).length = 144 := by
    have : ∀ (l : List Gd), (∀ e ∈ l, e.tag.length = 16) → ((l.map gdC).flatten).length = 18 * l.length := fun l hl => by
      induction l with
      | nil => rfl
      | cons x l ih => rw [List.map_cons, List.flatten_cons, List.length_append, gdC_length (hl x (by simp)), ih (fun e he => hl e (by simp [he])), List.length_cons]; omega
    rw [this a h.tags, h.len]
  rw [h.blk.cell, tabC, List.getElem?_append_right (by omega), hl]
  rfl
theorem there_yes {T : Nat} {a : List Gd} {w : World} (h : TabAt w T a) : Calls Try.prog 25 #[.pointer (some ⟨T, 0, none⟩)] w fun e w' => e = .returned (.bool true) ∧ w = w' := by
  have hm := h.made
  clear h
  go_enter Try.func25, Try.ntmps25
  go_wp2_with fail
  go_ret
  exact ⟨rfl, rfl⟩

set_option maxRecDepth 100000 in
set_option maxHeartbeats 2000000 in
theorem place_any (T : Nat) (a : List Gd) (tag : List Int) (w : World) (hT : TabAt w T a) (hok : TabOk a) (hg : tag.length = 16) :
    Calls Try.prog 26 #[.pointer (some ⟨T, 0, none⟩), .agg (tag.map (Value.int .u8)).toArray] w fun e w' => ∃ r is, e = .returned (.tuple #[.int .i64 r, .bool is]) ∧ PlaceRes a tag r is ∧ Below w.heap.size w w' := by
  have hB := new_belowG w (.cells (tag.map (Value.int .u8)).toArray 23)
  have hk := Blk.new w 23 (tag.map (Value.int .u8))
  have hi := idxtag_any T w.heap.size a tag _ (hT.below hB) hok (fun j v hv => by rw [Nat.zero_add, hk.cell]; exact hv) hk.lt hg
  have hT1 := hT.below hB
  have HT := Lib.hid hT1
  have HOK := Lib.hid hok
  have HI := Lib.hid hi
  have HB := Lib.hid hB
  obtain ⟨cs, hcs⟩ : ∃ cs, (tag.map (Value.int .u8)).toArray = cs := ⟨_, rfl⟩
  rw [hcs] at HI HB HT ⊢
  clear hB hk hi hT1 hT hok hg hcs
  go_enter Try.func26, Try.ntmps26
  go_wp2_with fail
  refine HI.out.mono ?_; rintro e w1 ⟨r, rfl, hr, hB1⟩
  have HB1 := Lib.hid (HB.out.trans (hB1.mono HB.out.size))
  have HT1 := Lib.hid (HT.out.below hB1)
  clear hB1
  rcases hr with ⟨i, x, rfl, h8, hx, hq⟩ | ⟨rfl, hno⟩
  · have hge : (0 : Int) ≤ (i : Int) := by omega
    go_wp2_with fail
    go_ret2
    exact ⟨_, _, rfl, .inl ⟨rfl, i, x, rfl, h8, hx, hq⟩, HB1.out⟩
  · have hf := idxfree_any T a w1 HT1.out HOK.out
    have HF := Lib.hid hf
    clear hf
    go_wp2_with fail
    refine HF.out.mono ?_; rintro e w2 ⟨r, rfl, hr, hB2⟩
    have HB2 := Lib.hid (HB1.out.trans (hB2.mono HB1.out.size))
    clear hB2
    go_wp2_with fail
    go_ret2
    exact ⟨_, _, rfl, .inr ⟨rfl, hno, hr⟩, HB2.out⟩

/-- What Room tells. -/
def roomN (a : List Gd) (tag : List Int) : Int := if (∃ e ∈ a, isTag tag e = true) ∨ (∃ e ∈ a, free e = true) then 256 else 0
theorem place_none {a : List Gd} {tag : List Int} {r : Int} {is : Bool} (h : PlaceRes a tag r is) : (r < 0 ∧ is = false ∧ r = -1 ∧ ¬ ((∃ e ∈ a, isTag tag e = true) ∨ ∃ e ∈ a, free e = true)) ∨
    (∃ (i : Nat) (e : Gd), r = (i : Int) ∧ i < 8 ∧ a[i]? = some e ∧ ((is = true ∧ isTag tag e = true) ∨ (is = false ∧ free e = true ∧ ¬ ∃ e ∈ a, isTag tag e = true))) := by
  rcases h with ⟨hi, i, e, h1, h2, h3, h4⟩ | ⟨hi, hno, hf⟩
  · exact .inr ⟨i, e, h1, h2, h3, .inl ⟨hi, h4⟩⟩
  · have hn : ¬ ∃ e ∈ a, isTag tag e = true := fun ⟨e, he, h⟩ => by rw [hno e he] at h; cases h
    rcases hf with ⟨i, e, h1, h2, h3, h4⟩ | ⟨h1, h2⟩
    · exact .inr ⟨i, e, h1, h2, h3, .inr ⟨hi, h4, hn⟩⟩
    · refine .inl ⟨by omega, hi, h1, ?_⟩
      rintro (h | ⟨e, he, h⟩)
      · exact hn h
      · rw [h2 e he] at h; cases h

set_option maxRecDepth 100000 in
set_option maxHeartbeats 1000000 in
theorem room_any (T : Nat) (a : List Gd) (tag : List Int) (w : World) (hT : TabAt w T a) (hok : TabOk a) (hg : tag.length = 16) :
    Calls Try.prog 11 #[.pointer (some ⟨T, 0, none⟩), .agg (tag.map (Value.int .u8)).toArray] w fun e w' => e = .returned (.int .u32 (roomN a tag)) ∧ Below w.heap.size w w' := by
  have HP := Lib.hid (fun W (hB : Below w.heap.size w W) => place_any T a tag W (hT.below hB) hok hg)
  have HT := Lib.hid hT
  have hsz : (Try.prog.info? 23).map (·.size) = some (tag.map (Value.int .u8)).length := by rw [List.length_map, hg]; kernel_rfl
  have hu : Try.prog.underlying 23 = some (.array 16 5) := Try.underlying23
  have hbx := (Blk.new w 23 (tag.map (Value.int .u8))).range
  have hBn := new_belowG w (.cells (tag.map (Value.int .u8)).toArray 23)
  have HT1 := Lib.hid (hT.below hBn)
  obtain ⟨L, hL⟩ : ∃ L, tag.map (Value.int .u8) = L := ⟨_, rfl⟩
  rw [hL] at HP hsz hbx hBn HT1 ⊢
  have HSZ := Lib.hid hsz
  have HU := Lib.hid hu
  have HBX := Lib.hid hbx
  have HBN := Lib.hid hBn
  clear hsz hu hbx hBn hL
  have HR : Hid (roomN a tag = if (∃ e ∈ a, isTag tag e = true) ∨ (∃ e ∈ a, free e = true) then 256 else 0) := Lib.hid rfl
  obtain ⟨R, hR⟩ : ∃ R, roomN a tag = R := ⟨_, rfl⟩
  rw [hR] at HR ⊢
  clear hT hok hg hR
  go_enter Try.func11, Try.ntmps11
  go_wp2_with fail
  refine (there_yes HT1.out).mono ?_; rintro e w1 ⟨rfl, rfl⟩
  go_wp2_with (refine wpList_load_mid rfl 23 _ rfl w.heap.size 0 rfl L _ HBX.out HU.out rfl HSZ.out ?_)
  refine (HP.out _ HBN.out).mono ?_; rintro e w2 ⟨r, is, rfl, hr, hB2⟩
  have HB2 := Lib.hid (HBN.out.trans (hB2.mono HBN.out.size))
  clear hB2
  rcases place_none hr with ⟨h1, rfl, rfl, h3⟩ | ⟨i, x, rfl, h8, hx, hq⟩
  · clear hr
    rw [if_neg h3] at HR
    obtain rfl := HR.out
    clear HR h3
    go_wp2_with fail
    go_ret
    exact ⟨rfl, HB2.out⟩
  · have h3 : (∃ e ∈ a, isTag tag e = true) ∨ (∃ e ∈ a, free e = true) := by
      have hm := List.mem_of_getElem? hx
      rcases hq with ⟨_, h⟩ | ⟨_, h, _⟩
      · exact .inl ⟨x, hm, h⟩
      · exact .inr ⟨x, hm, h⟩
    rw [if_pos h3] at HR
    obtain rfl := HR.out
    have hge : ¬ (i : Int) < 0 := by omega
    clear HR h3 hr hx hq
    go_wp2_with fail
    go_ret
    exact ⟨rfl, HB2.out⟩

/-- What Get tells. -/
def GetIs (a : List Gd) (tag : List Int) (s e : Int) : Prop := (e = 0 ∧ ∃ x ∈ a, isTag tag x = true ∧ s = x.spot) ∨ (e = 7 ∧ s = 0 ∧ ¬ ∃ x ∈ a, isTag tag x = true)

set_option maxRecDepth 100000 in
set_option maxHeartbeats 1000000 in
theorem get_tab (T : Nat) (a : List Gd) (tag : List Int) (w : World) (hT : TabAt w T a) (hok : TabOk a) (hg : tag.length = 16) :
    Calls Try.prog 9 #[.pointer (some ⟨T, 0, none⟩), .agg (tag.map (Value.int .u8)).toArray] w fun e w' => ∃ s E, e = .returned (.tuple #[.int .u32 s, .int .i64 E]) ∧ GetIs a tag s E ∧ Below w.heap.size w w' := by
  have HP := Lib.hid (fun W (hB : Below w.heap.size w W) => place_any T a tag W (hT.below hB) hok hg)
  have HT := Lib.hid hT
  have hsz : (Try.prog.info? 23).map (·.size) = some (tag.map (Value.int .u8)).length := by rw [List.length_map, hg]; kernel_rfl
  have hu : Try.prog.underlying 23 = some (.array 16 5) := Try.underlying23
  have hbx := (Blk.new w 23 (tag.map (Value.int .u8))).range
  have hBn := new_belowG w (.cells (tag.map (Value.int .u8)).toArray 23)
  have HT1 := Lib.hid (hT.below hBn)
  obtain ⟨L, hL⟩ : ∃ L, tag.map (Value.int .u8) = L := ⟨_, rfl⟩
  rw [hL] at HP hsz hbx hBn HT1 ⊢
  have HSZ := Lib.hid hsz
  have HU := Lib.hid hu
  have HBX := Lib.hid hbx
  have HBN := Lib.hid hBn
  clear hsz hu hbx hBn hL
  clear hT hok hg
  go_enter Try.func9, Try.ntmps9
  go_wp2_with fail
  refine (there_yes HT1.out).mono ?_; rintro e w1 ⟨rfl, rfl⟩
  go_wp2_with (refine wpList_load_mid rfl 23 _ rfl w.heap.size 0 rfl L _ HBX.out HU.out rfl HSZ.out ?_)
  refine (HP.out _ HBN.out).mono ?_; rintro e w2 ⟨r, is, rfl, hr, hB2⟩
  have HB2 := Lib.hid (HBN.out.trans (hB2.mono HBN.out.size))
  have HT2 := Lib.hid (HT1.out.below hB2)
  clear hB2
  rcases place_none hr with ⟨h1, rfl, rfl, h3⟩ | ⟨i, x, rfl, h8, hx, ⟨rfl, hq⟩ | ⟨rfl, hq, hno⟩⟩
  · go_wp2_with fail
    go_ret2
    exact ⟨_, _, rfl, .inr ⟨rfl, rfl, fun h => h3 (.inl h)⟩, HB2.out⟩
  · have hrow := HT2.out.row' hx rfl
    have hspot : w2.cell? ⟨T, i * 18 + 16, none⟩ = some (.int .u32 x.spot) := by
      refine hrow 16 _ ?_
      rw [gdC, List.getElem?_append_right (by simp [HT2.out.tags x (List.mem_of_getElem? hx)])]
      simp [HT2.out.tags x (List.mem_of_getElem? hx)]
    have h0 : (0 : Int) ≤ (i : Int) := by omega
    have h8' : (i : Int) < 8 := by omega
    have HX := Lib.hid hx
    clear hrow hr hx
    go_wp2_with fail
    go_ret2
    exact ⟨_, _, rfl, .inl ⟨rfl, x, List.mem_of_getElem? HX.out, hq, rfl⟩, HB2.out⟩
  · go_wp2_with fail
    go_ret2
    exact ⟨_, _, rfl, .inr ⟨rfl, rfl, hno⟩, HB2.out⟩
end Go.Proofs.Ytlmlklaleooliaa
