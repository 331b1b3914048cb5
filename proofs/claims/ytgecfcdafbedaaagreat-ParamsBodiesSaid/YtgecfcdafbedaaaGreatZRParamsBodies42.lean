/- lives of the pieces' laws: it answers true; ParamsBodies: each pair of calls in one and the same form. -/
import Derived.Test.YtgecfcdafbedaaaGreatZRParamsBodies23
import Derived.Test.YtgecfcdafbedaaaGreatZRParamsBodies40
import Derived.Test.YtgecfcdafbedaaaGreatZRParamsBodies41
import Derived.Lib.SlBytesConst
import Derived.Test.YtgecfcdafbedaaaGreatZRParamsBodies32
import Derived.Test.YtgecfcdafbedaaaGreatZRParamsBodies33
import Derived.Test.YtgecfcdafbedaaaGreatZRParamsBodies36
import Derived.Test.YtgecfcdafbedaaaGreatZRParamsBodies37
import Derived.Test.YtgecfcdafbedaaaGreatZRParamsBodies39
import Derived.Test.YtgecfcdafbedaaaGreatZRParamsBodies15
namespace Go.Proofs.YtgecfcdafbedaaaGreat
open Go.RowKit
set_option linter.unusedSimpArgs false
set_option linter.unusedVariables false

theorem rd_mark (w : World) (xs : List Int) (n : Nat) (fr : Nat × Nat) (hw : ∀ x ∈ xs, 0 ≤ x ∧ x ≤ 255) (hl : xs.length = n) (hb : n ≤ 140737488351232) : Rd (w.alloc (.cells (xs.map (Value.int .u8)).toArray 5 fr)) .u8 (some ⟨w.heap.size, 0, none⟩) n xs :=
  ⟨hl, hb, bytes_wf hw, fun _ => ⟨w.heap.size, 0, rfl, by simp, fun j hj => by
    rw [Nat.zero_add, World.cell?_alloc_mark]
    simp [show j < xs.length by omega]⟩⟩
theorem abc_b : ∀ x ∈ ([97, 98, 99] : List Int), 0 ≤ x ∧ x ≤ 255 := by intro x hx; simp at hx; omega
theorem one_piece (w : World) (g k : Nat) (h : Rd w .u8 (some ⟨g, 0, none⟩) 3 [97, 98, 99]) (hk : Blk w k 69 [.int .u16 65, .slice (some ⟨g, 0, none⟩) 3 3]) : Ps w (some ⟨k, 0, none⟩) 1 [(65, [97, 98, 99])] :=
  ⟨rfl, by omega, fun _ => ⟨k, 0, rfl, hk.lt, fun j hj => by
    obtain rfl : j = 0 := by omega
    exact ⟨65, [97, 98, 99], some ⟨g, 0, none⟩, 3, 3, rfl, by omega, hk.cell 0, hk.cell 1, h, Nat.le_refl _, fun e => by cases e⟩⟩⟩
theorem put_one (w : World) (A : Option Addr) (h : Ps w A 1 [(65, [97, 98, 99])]) : Calls Tryz.prog 39 #[.slice A 1 1] w fun e w' => ∃ g, e = .returned (.tuple #[.slice (some ⟨g, 0, none⟩) 8 8, .int .i64 0]) ∧ Rd w' .u8 (some ⟨g, 0, none⟩) 8 [0, 65, 0, 3, 97, 98, 99, 0] ∧ Below w.heap.size w w' := by
  have ep : pieces [(65, [97, 98, 99])] = [0, 65, 0, 3, 97, 98, 99, 0] := by decide +kernel
  refine (paput_any A 1 1 _ w h).mono ?_
  rintro e w' (⟨hne, _⟩ | ⟨A1, h0, rfl, hr, hz, hg, hB⟩)
  · exact absurd (by decide +kernel) hne
  · rw [ep] at hr hg ⊢
    obtain ⟨g, rfl, _⟩ := hg (by simp)
    exact ⟨g, rfl, hr, hB⟩
theorem get_one (w : World) (g : Nat) (h : Rd w .u8 (some ⟨g, 0, none⟩) 8 [0, 65, 0, 3, 97, 98, 99, 0]) : Calls Tryz.prog 40 #[.slice (some ⟨g, 0, none⟩) 8 8] w fun e w' => ∃ A, e = .returned (.tuple #[.slice A 1 1, .int .i64 0]) ∧ Ps w' A 1 [(65, [97, 98, 99])] ∧ Below w.heap.size w w' := by
  have hg := paget_any (some ⟨g, 0, none⟩) 8 8 _ w h (Nat.le_refl _) (fun e => by cases e)
  rw [show paGet [0, 65, 0, 3, 97, 98, 99, 0] = (0, [(65, [97, 98, 99])]) by decide +kernel] at hg
  refine hg.mono ?_
  rintro e w' (⟨hne, _⟩ | ⟨A, h0, rfl, hp, hz, hB⟩)
  · exact absurd rfl hne
  · exact ⟨A, rfl, hp.ps, hB⟩
theorem get_shortP (w : World) (g : Nat) (h : Rd w .u8 (some ⟨g, 0, none⟩) 7 [0, 65, 0, 3, 97, 98, 99]) : Calls Tryz.prog 40 #[.slice (some ⟨g, 0, none⟩) 7 7] w fun e w' => e = .returned (.tuple #[.slice none 0 0, .int .i64 5]) ∧ Below w.heap.size w w' := by
  have hg := paget_any (some ⟨g, 0, none⟩) 7 7 _ w h (Nat.le_refl _) (fun e => by cases e)
  rw [show paGet [0, 65, 0, 3, 97, 98, 99] = (5, []) by decide +kernel] at hg
  refine hg.mono ?_
  rintro e w' (⟨hne, rfl, hB⟩ | ⟨A, h0, _⟩)
  · exact ⟨rfl, hB⟩
  · cases h0
/-- The bytes as a text. -/
theorem text_of (w : World) (A : Option Addr) (n c : Nat) (xs : List Int) (l : List UInt8) (h : Rd w .u8 A n xs) (h0 : 0 < n) (hl : l.length = n) (hx : xs = l.map (fun b => (b.toNat : Int))) :
    (convert 22 9 (.slice A n c)).run Tryz.prog w = .ok (.string ⟨l.toArray⟩) w := by
  obtain ⟨b, off, rfl, _, hc⟩ := h.row h0
  subst hl
  refine run_convert_bytes_back w 22 9 5 ⟨b, off, none⟩ c l Tryz.underlying22 Tryz.underlying5 Tryz.underlying9 (fun j hj => ?_)
  have ha : (⟨b, off, none⟩ : Addr).add j = ⟨b, off + j, none⟩ := by unfold Addr.add; split <;> simp_all
  rw [ha, hc j hj, hx]
  simp [hj]

set_option maxRecDepth 100000 in
set_option maxHeartbeats 4000000 in
theorem lives_true (w : World) : Calls Tryz.prog 4 #[] w fun e w' => e = .returned (.bool true) ∧ Below w.heap.size w w' := by
  have kc := fun (w : World) (C : Array Value) (n c : Nat) => Lib.run_convert_bytes_const (P := Tryz.prog) w 22 5 C n c Tryz.underlying22 Tryz.underlying5
  have HB0 : Hid (Below w.heap.size w ((w.alloc (.cells #[.int .u8 97, .int .u8 98, .int .u8 99] 5 (3, 4))).alloc (.cells #[.int .u16 65, .slice (some ⟨w.heap.size, 0, none⟩) 3 3] 69))) := Lib.hid (((Below.refl _ _).alloc (Nat.le_refl _) _).alloc (by simp) _)
  have HP0 : Hid (Ps ((w.alloc (.cells #[.int .u8 97, .int .u8 98, .int .u8 99] 5 (3, 4))).alloc (.cells #[.int .u16 65, .slice (some ⟨w.heap.size, 0, none⟩) 3 3] 69)) (some ⟨w.heap.size + 1, 0, none⟩) 1 [(65, [97, 98, 99])]) := Lib.hid (by
    refine one_piece _ w.heap.size _ ((rd_mark w [97, 98, 99] 3 (3, 4) abc_b rfl (by omega)).below (new_below _ _)) ?_
    have := Blk.new (w.alloc (.cells #[.int .u8 97, .int .u8 98, .int .u8 99] 5 (3, 4))) 69 [.int .u16 65, .slice (some ⟨w.heap.size, 0, none⟩) 3 3]
    rwa [World.size_alloc] at this)
  go_enter Tryz.func4, Tryz.ntmps4
  go_wp2_with fail
  refine (put_one _ _ HP0.out).mono ?_; rintro e w1 ⟨g1, rfl, hr1, hB1⟩
  have HB1 := Lib.hid (HB0.out.trans (hB1.mono HB0.out.size))
  have HR1 := Lib.hid hr1
  clear hr1 hB1 HP0 HB0
  go_wp2_with fail
  refine (get_one _ _ HR1.out).mono ?_; rintro e w2 ⟨A2, rfl, hp2, hB2⟩
  have HB2 := Lib.hid (HB1.out.trans (hB2.mono HB1.out.size))
  have HR2 := Lib.hid (HR1.out.below hB2)
  have HP2 := Lib.hid hp2
  have HR3 : Hid (Rd (w2.alloc (.cells #[.int .u8 0, .int .u8 65, .int .u8 0, .int .u8 3, .int .u8 97, .int .u8 98, .int .u8 99] 5 (7, 8))) .u8 (some ⟨w2.heap.size, 0, none⟩) 7 [0, 65, 0, 3, 97, 98, 99]) := Lib.hid (rd_mark w2 [0, 65, 0, 3, 97, 98, 99] 7 (7, 8) (by intro x hx; simp at hx; omega) rfl (by omega))
  have HN3 : Hid (Below w2.heap.size w2 (w2.alloc (.cells #[.int .u8 0, .int .u8 65, .int .u8 0, .int .u8 3, .int .u8 97, .int .u8 98, .int .u8 99] 5 (7, 8)))) := Lib.hid (new_below _ _)
  clear hp2 hB2 HR1 HB1
  go_wp2_with fail
  refine (get_shortP _ _ HR3.out).mono ?_; rintro e w3 ⟨rfl, hB3⟩
  have hB23 : Below w2.heap.size w2 w3 := HN3.out.trans (hB3.mono HN3.out.size)
  have HB3 := Lib.hid (HB2.out.trans (hB23.mono HB2.out.size))
  have HR4 := Lib.hid (HR2.out.below hB23)
  have HP4 := Lib.hid (HP2.out.below hB23)
  have HT4 : Hid (TwoIn (w3.alloc (.cells #[.int .u32 7, .int .u32 9] 73)) w3.heap.size 0 7 9) := Lib.hid ⟨by simp, by simp, by simp⟩
  have HN4 : Hid (Below w3.heap.size w3 (w3.alloc (.cells #[.int .u32 7, .int .u32 9] 73))) := Lib.hid (new_below _ _)
  clear hB3 hB23 HR3 HN3 HB2 HR2 HP2
  go_wp2_with fail
  refine (putspots_79 _ _ _ _ HT4.out).mono ?_; rintro e w4 ⟨g4, rfl, hr4, hB4⟩
  have hB34 : Below w3.heap.size w3 w4 := HN4.out.trans (hB4.mono HN4.out.size)
  have HB4 := Lib.hid (HB3.out.trans (hB34.mono HB3.out.size))
  have HR5 := Lib.hid (HR4.out.below hB34)
  have HP5 := Lib.hid (HP4.out.below hB34)
  have HRS := Lib.hid hr4
  clear hr4 hB4 hB34 HR4 HP4 HT4 HN4 HB3
  go_wp2_with fail
  refine (getspots_79 _ _ HRS.out).mono ?_; rintro e w5 ⟨g5, rfl, ht5, hB5⟩
  have HB5 := Lib.hid (HB4.out.trans (hB5.mono HB4.out.size))
  have HR6 := Lib.hid (HR5.out.below hB5)
  have HP6 := Lib.hid (HP5.out.below hB5)
  have HT6 := Lib.hid ht5
  have HT7 : Hid (TwoIn (w5.alloc (.cells #[.int .u32 7, .int .u32 7] 73)) w5.heap.size 0 7 7) := Lib.hid ⟨by simp, by simp, by simp⟩
  have HN7 : Hid (Below w5.heap.size w5 (w5.alloc (.cells #[.int .u32 7, .int .u32 7] 73))) := Lib.hid (new_below _ _)
  clear ht5 hB5 HR5 HP5 HRS HB4
  go_wp2_with fail
  refine (putspots_77 _ _ _ _ HT7.out).mono ?_; rintro e w6 ⟨rfl, hB6⟩
  have hB56 : Below w5.heap.size w5 w6 := HN7.out.trans (hB6.mono HN7.out.size)
  have HB6 := Lib.hid (HB5.out.trans (hB56.mono HB5.out.size))
  have HR7 := Lib.hid (HR6.out.below hB56)
  have HP7 := Lib.hid (HP6.out.below hB56)
  have HT8 := Lib.hid (HT6.out.below hB56)
  have HC8 : Hid (Rd (w6.alloc (.cells #[.int .u8 0, .int .u8 0, .int .u8 1, .int .u8 0] 5)) .u8 (some ⟨w6.heap.size, 0, none⟩) 4 [0, 0, 1, 0]) := Lib.hid (rd_lit w6 [0, 0, 1, 0] 4 (by intro x hx; simp at hx; omega) rfl (by omega))
  have HN8 : Hid (Below w6.heap.size w6 (w6.alloc (.cells #[.int .u8 0, .int .u8 0, .int .u8 1, .int .u8 0] 5))) := Lib.hid (new_below _ _)
  clear hB6 hB56 HR6 HP6 HT6 HT7 HN7 HB5
  go_wp2_with fail
  refine (count_any _ 4 _ 256 _ HC8.out (Nat.le_refl _) (by decide +kernel) (by omega) (by omega)).mono ?_; rintro e w7 ⟨rfl, hB7⟩
  have hB67 : Below w6.heap.size w6 w7 := HN8.out.trans (hB7.mono HN8.out.size)
  have HB7 := Lib.hid (HB6.out.trans (hB67.mono HB6.out.size))
  have hr8 := HR7.out.below hB67
  have hp8 := HP7.out.below hB67
  have ht8 := HT8.out.below hB67
  obtain ⟨b8, o8, rfl, hb8, hc8⟩ := hp8.row (by omega)
  obtain ⟨t9, body9, B9, m9, c9, q1, q2, q3, q4, q5, q6, q7⟩ := hc8 0 (by omega)
  simp only [List.getElem?_cons_zero, Option.some.injEq, Prod.mk.injEq] at q1
  obtain ⟨rfl, rfl⟩ := q1
  simp only [Nat.zero_mul, Nat.add_zero] at q3 q4
  obtain rfl : m9 = 3 := q5.len.symm
  have k1 := text_of w7 _ 8 8 _ [0, 65, 0, 3, 97, 98, 99, 0] hr8 (by omega) rfl rfl
  have k2 := text_of w7 _ 3 c9 _ [97, 98, 99] q5 (by omega) rfl rfl
  have HT9 := Lib.hid ht8
  have HT10 : Hid (TwoIn (w7.alloc (.cells #[.int .u32 7, .int .u32 9] 73)) w7.heap.size 0 7 9) := Lib.hid ⟨by simp, by simp, by simp⟩
  have HN10 : Hid (Below w7.heap.size w7 (w7.alloc (.cells #[.int .u32 7, .int .u32 9] 73))) := Lib.hid (new_below _ _)
  clear hB7 hB67 HR7 HP7 HT8 HC8 HN8 HB6 hr8 hp8 ht8 hc8 q5 kc
  go_wp2_with fail
  refine (samespots_79 _ _ _ _ _ (HT9.out.below HN10.out) HT10.out).mono ?_; rintro e w8 ⟨rfl, hB8⟩
  have HB8 := Lib.hid (HB7.out.trans ((HN10.out.trans (hB8.mono HN10.out.size)).mono HB7.out.size))
  clear hB8
  go_wp2_with fail
  go_ret
  exact ⟨rfl, HB8.out⟩
end Go.Proofs.YtgecfcdafbedaaaGreat

namespace Go.Proofs.YtgecfcdafbedaaaGreat
open Go.RowKit
set_option linter.unusedSimpArgs false
set_option linter.unusedVariables false

def Tells (f : Nat) (args : Array Value) (w : World) (v : Value) : Prop := ∀ W, Below w.heap.size w W → Calls Tryz.prog f args W fun e w' => e = .returned v ∧ Below W.heap.size W w'
def Gives (f : Nat) (args : Array Value) (w : World) (bs : List Int) : Prop :=
  ∀ W, Below w.heap.size w W → Calls Tryz.prog f args W fun e w' => ∃ g m k, e = .returned (.slice g m k) ∧ Rd w' .u8 g m bs ∧ Below W.heap.size W w'
def Lists (k : IntKind) (f : Nat) (args : Array Value) (w : World) (xs : List Int) (E : Int) : Prop :=
  ∀ W, Below w.heap.size w W → Calls Tryz.prog f args W fun e w' => ∃ g m c, e = .returned (.tuple #[.slice g m c, .int .i64 E]) ∧ Rd w' k g m xs ∧ Below W.heap.size W w'
def SelfEq (T : TypeId) (Z : List Value) : Prop := ∀ W, Sem.run Tryz.prog (Op.equalIn 10000 T (.agg Z.toArray) (.agg Z.toArray)) W = .ok true W
def Whole (T : TypeId) (m : Nat) (Z : List Value) : Prop := Z.length = m ∧ (∀ v ∈ Z, v.oneCell' = true) ∧ SelfEq T Z
theorem ex_yes {C : Prop} {v z : Value} {e : Ending} (h : ExAns C v z e) (hc : C) : e = .returned (.tuple #[v, .int .i64 0]) := by
  rcases h with ⟨_, h⟩ | ⟨h, _⟩
  · exact h
  · exact absurd hc h
theorem ex_no {C : Prop} {v z : Value} {e : Ending} (h : ExAns C v z e) (hc : ¬ C) : e = .returned (.tuple #[z, .int .i64 4]) := by
  rcases h with ⟨h, _⟩ | ⟨_, h⟩
  · exact absurd h hc
  · exact h
theorem whole_num (f : List Int) (h : f.length = 4) : Whole 31 4 (f.map (Value.int .u64)) := ⟨by simp [h], one_ints, fun W => eq_num 9998 f h W⟩
theorem whole_sum (f : List Int) (h : f.length = 32) : Whole 27 32 (f.map (Value.int .u8)) := ⟨by simp [h], one_ints, fun W => eq_sum 9998 f h W⟩
theorem whole_sig (f g : List Int) (h : f.length = 4) (h' : g.length = 4) : Whole 33 8 ((f ++ g).map (Value.int .u64)) := ⟨by simp [h, h'], one_ints, fun W => eq_sig 9997 f g h h' W⟩
theorem whole_puz (x y : Int) (f : List Int) (h : f.length = 32) : Whole 29 34 (puzP x y f) := ⟨puzP_len x y f h, puzP_one x y f, fun W => eq_puz 9997 x y f h W⟩
section
variable (A : Option Addr) (n c : Nat) (bs : List Int) (w : World) (r : Rd w .u8 A n bs) (l : n ≤ c) (hz : A = none → c = 0)
include r l
theorem cnt_two : ∃ X E, Tells 14 #[.slice A n c] w (.tuple #[.int .u32 X, .int .i64 E]) ∧ Tells 15 #[.slice A n c] w (.tuple #[.int .u32 X, .int .i64 E]) :=
  ⟨_, _, fun W h => getcount_any A n c bs W (r.below h) l, fun W h => rcount_any A n c bs W (r.below h) l⟩
include hz
theorem lane_two : ∃ X Y E, Tells 5 #[.slice A n c] w (.tuple #[.int .u32 X, .int .u32 Y, .int .i64 E]) ∧ Tells 6 #[.slice A n c] w (.tuple #[.int .u32 X, .int .u32 Y, .int .i64 E]) :=
  ⟨_, _, _, fun W h => getlane_any A n c bs W (r.below h) l hz, fun W h => rlane_any A n c bs W (r.below h) l hz⟩
theorem num_two : ∃ Z E, Whole 31 4 Z ∧ Tells 16 #[.slice A n c] w (.tuple #[.agg Z.toArray, .int .i64 E]) ∧ Tells 17 #[.slice A n c] w (.tuple #[.agg Z.toArray, .int .i64 E]) := by
  by_cases h : n = 32
  · exact ⟨longC bs, 0, whole_num (longGot bs 32) rfl, fun W hb => (getnum_any A n c bs W (r.below hb) l hz).mono fun e w' hh => ⟨ex_yes hh.1 h, hh.2⟩, fun W hb => (rgnum_any A n c bs W (r.below hb) l hz).mono fun e w' hh => ⟨ex_yes hh.1 h, hh.2⟩⟩
  · exact ⟨zNUM, 4, whole_num _ rfl, fun W hb => (getnum_any A n c bs W (r.below hb) l hz).mono fun e w' hh => ⟨ex_no hh.1 h, hh.2⟩, fun W hb => (rgnum_any A n c bs W (r.below hb) l hz).mono fun e w' hh => ⟨ex_no hh.1 h, hh.2⟩⟩
theorem sum_two : ∃ Z E, Whole 27 32 Z ∧ Tells 18 #[.slice A n c] w (.tuple #[.agg Z.toArray, .int .i64 E]) ∧ Tells 19 #[.slice A n c] w (.tuple #[.agg Z.toArray, .int .i64 E]) := by
  by_cases h : n = 32
  · exact ⟨bs.map (Value.int .u8), 0, whole_sum bs (by rw [r.len]; exact h), fun W hb => (getsum_any A n c bs W (r.below hb) l hz).mono fun e w' hh => ⟨ex_yes hh.1 h, hh.2⟩, fun W hb => (rgsum_any A n c bs W (r.below hb) l hz).mono fun e w' hh => ⟨ex_yes hh.1 h, hh.2⟩⟩
  · exact ⟨zSum, 4, whole_sum _ (by simp), fun W hb => (getsum_any A n c bs W (r.below hb) l hz).mono fun e w' hh => ⟨ex_no hh.1 h, hh.2⟩, fun W hb => (rgsum_any A n c bs W (r.below hb) l hz).mono fun e w' hh => ⟨ex_no hh.1 h, hh.2⟩⟩
theorem sig_two : ∃ Z E, Whole 33 8 Z ∧ Tells 20 #[.slice A n c] w (.tuple #[.agg Z.toArray, .int .i64 E]) ∧ Tells 21 #[.slice A n c] w (.tuple #[.agg Z.toArray, .int .i64 E]) := by
  by_cases h : n = 64
  · have hw := whole_sig (longGot (bs.take 32) 32) (longGot (bs.drop 32) 32) rfl rfl
    rw [List.map_append] at hw
    exact ⟨sigC bs, 0, hw, fun W hb => (getsig_any A n c bs W (r.below hb) l hz).mono fun e w' hh => ⟨ex_yes hh.1 h, hh.2⟩, fun W hb => (rgsig_any A n c bs W (r.below hb) l hz).mono fun e w' hh => ⟨ex_yes hh.1 h, hh.2⟩⟩
  · exact ⟨zSIG, 4, whole_sig (List.replicate 4 0) (List.replicate 4 0) rfl rfl, fun W hb => (getsig_any A n c bs W (r.below hb) l hz).mono fun e w' hh => ⟨ex_no hh.1 h, hh.2⟩, fun W hb => (rgsig_any A n c bs W (r.below hb) l hz).mono fun e w' hh => ⟨ex_no hh.1 h, hh.2⟩⟩
theorem puz_two : ∃ Z E, Whole 29 34 Z ∧ Tells 10 #[.slice A n c] w (.tuple #[.agg Z.toArray, .int .i64 E]) ∧ Tells 11 #[.slice A n c] w (.tuple #[.agg Z.toArray, .int .i64 E]) := by
  by_cases h : n = 41 ∧ decide (bs[0]?.getD 0 ≤ 12) = true
  · exact ⟨puzC bs, 0, whole_puz _ _ _ (by have := r.len; simp; omega), fun W hb => (getpuz_any A n c bs W (r.below hb) l hz).mono fun e w' hh => ⟨ex_yes hh.1 h, hh.2⟩, fun W hb => (rgpuz_any A n c bs W (r.below hb) l hz).mono fun e w' hh => ⟨ex_yes hh.1 h, hh.2⟩⟩
  · exact ⟨zPUZ, 4, whole_puz 0 0 (List.replicate 32 0) (by simp), fun W hb => (getpuz_any A n c bs W (r.below hb) l hz).mono fun e w' hh => ⟨ex_no hh.1 h, hh.2⟩, fun W hb => (rgpuz_any A n c bs W (r.below hb) l hz).mono fun e w' hh => ⟨ex_no hh.1 h, hh.2⟩⟩
theorem sol_two : ∃ Z Y E, Whole 29 34 Z ∧ Whole 27 32 Y ∧ Tells 12 #[.slice A n c] w (.tuple #[.agg Z.toArray, .agg Y.toArray, .int .i64 E]) ∧ Tells 13 #[.slice A n c] w (.tuple #[.agg Z.toArray, .agg Y.toArray, .int .i64 E]) := by
  by_cases h : n = 73 ∧ bs[0]?.getD 0 ≤ 12
  · have hy : ∀ e, SolAns bs n e → e = .returned (.tuple #[.agg (puzC bs).toArray, .agg ((bs.drop 41).map (Value.int .u8)).toArray, .int .i64 0]) := fun e hh => by
      rcases hh with ⟨_, h1⟩ | ⟨h1, _⟩
      · exact h1
      · exact absurd h h1
    exact ⟨puzC bs, (bs.drop 41).map (Value.int .u8), 0, whole_puz _ _ _ (by have := r.len; simp; omega), whole_sum _ (by have := r.len; simp; omega), fun W hb => (getsol_any A n c bs W (r.below hb) l hz).mono fun e w' hh => ⟨hy e hh.1, hh.2⟩, fun W hb => (rgsol_any A n c bs W (r.below hb) l hz).mono fun e w' hh => ⟨hy e hh.1, hh.2⟩⟩
  · have hy : ∀ e, SolAns bs n e → e = .returned (.tuple #[.agg zPUZ.toArray, .agg zSum.toArray, .int .i64 4]) := fun e hh => by
      rcases hh with ⟨h1, _⟩ | ⟨_, h1⟩
      · exact absurd h1 h
      · exact h1
    exact ⟨zPUZ, zSum, 4, whole_puz 0 0 (List.replicate 32 0) (by simp), whole_sum _ (by simp), fun W hb => (getsol_any A n c bs W (r.below hb) l hz).mono fun e w' hh => ⟨hy e hh.1, hh.2⟩, fun W hb => (rgsol_any A n c bs W (r.below hb) l hz).mono fun e w' hh => ⟨hy e hh.1, hh.2⟩⟩
theorem spots_two : ∃ xs E, Lists .u32 7 #[.slice A n c] w xs E ∧ Lists .u32 8 #[.slice A n c] w xs E := by
  by_cases h : ∃ m, GsOk bs n m
  · obtain ⟨m, hm⟩ := h
    refine ⟨spList bs m, 0, fun W hb => (getspots_any A n c bs W (r.below hb) l hz).mono fun e w' hh => ?_, fun W hb => (rgetspots_any A n c bs W (r.below hb) l hz).mono fun e w' hh => ?_⟩
    · obtain ⟨⟨m', g, hg, _, rfl, hr⟩ | ⟨h1, _⟩, hB⟩ := hh
      · obtain rfl : m' = m := by
          have h1 := hg.2.2.1
          have h2 := hm.2.2.1
          omega
        exact ⟨_, _, _, rfl, hr, hB⟩
      · exact absurd ⟨m, hm⟩ h1
    · obtain ⟨⟨m', A', c', hg, rfl, hr⟩ | ⟨h1, _⟩, hB⟩ := hh
      · obtain rfl : m' = m := by
          have h1 := hg.2.2.1
          have h2 := hm.2.2.1
          omega
        exact ⟨_, _, _, rfl, hr, hB⟩
      · exact absurd ⟨m, hm⟩ h1
  · refine ⟨[], 4, fun W hb => (getspots_any A n c bs W (r.below hb) l hz).mono fun e w' hh => ?_, fun W hb => (rgetspots_any A n c bs W (r.below hb) l hz).mono fun e w' hh => ?_⟩
    · obtain ⟨⟨m', g, hg, _⟩ | ⟨_, rfl⟩, hB⟩ := hh
      · exact absurd ⟨_, hg⟩ h
      · exact ⟨_, _, _, rfl, rd_nil w' .u32, hB⟩
    · obtain ⟨⟨m', A', c', hg, _⟩ | ⟨_, rfl⟩, hB⟩ := hh
      · exact absurd ⟨_, hg⟩ h
      · exact ⟨_, _, _, rfl, rd_nil w' .u32, hB⟩
end
theorem putsp_two (A : Option Addr) (n c : Nat) (xs : List Int) (w : World) (r : Rd w .u32 A n xs) (l : n ≤ c) (hn : n ≤ 35184372087808) :
    ∃ bs E, Lists .u8 22 #[.slice A n c] w bs E ∧ Lists .u8 23 #[.slice A n c] w bs E := by
  by_cases h : SpOk n (atL xs)
  · refine ⟨spPre n (atL xs) n, 0, fun W hb => (putspots_any A n c xs W (r.below hb) l hn).mono fun e w' hh => ?_, fun W hb => (rputspots_any A n c xs W (r.below hb)).mono fun e w' hh => ?_⟩
    · obtain ⟨⟨_, g, hg, rfl, hk⟩ | ⟨h1, _⟩, hB⟩ := hh
      · have hl := spPre_length n (atL xs) n
        have h4 := h.2.1
        exact ⟨_, _, _, rfl, rd_of_blk hk (spPre_byte n (atL xs) (by omega) n) hl (by omega), hB⟩
      · exact absurd h h1
    · obtain ⟨⟨_, A', c', rfl, hr, _⟩ | ⟨h1, _⟩, hB⟩ := hh
      · exact ⟨_, _, _, rfl, hr, hB⟩
      · exact absurd h h1
  · refine ⟨[], 1, fun W hb => (putspots_any A n c xs W (r.below hb) l hn).mono fun e w' hh => ?_, fun W hb => (rputspots_any A n c xs W (r.below hb)).mono fun e w' hh => ?_⟩
    · obtain ⟨⟨h1, _⟩ | ⟨_, rfl⟩, hB⟩ := hh
      · exact absurd h1 h
      · exact ⟨_, _, _, rfl, rd_nil w' .u8, hB⟩
    · obtain ⟨⟨h1, _⟩ | ⟨_, rfl⟩, hB⟩ := hh
      · exact absurd h1 h
      · exact ⟨_, _, _, rfl, rd_nil w' .u8, hB⟩
theorem gives_rd {f : Nat} {args : Array Value} {w : World} {m : Nat} {bs : List Int} (h : ∀ W, Calls Tryz.prog f args W (NewRd W m bs)) : Gives f args w bs := fun W _ => (h W).mono fun e w' ⟨g, k, he, _, hr, hB⟩ => ⟨_, _, _, he, hr, hB⟩
theorem gives_b {f : Nat} {args : Array Value} {w : World} {bs : List Int} (h : ∀ W, Calls Tryz.prog f args W (NewB W bs)) : Gives f args w bs := fun W _ => (h W).mono fun e w' ⟨A, c, m, _, he, hr, _, _, hB⟩ => ⟨_, _, _, he, hr, hB⟩
theorem gives_o {f : Nat} {args : Array Value} {w : World} {bs : List Int} (hb : ∀ x ∈ bs, 0 ≤ x ∧ x ≤ 255) (hn : bs.length ≤ 140737488351232) (h : ∀ W, Calls Tryz.prog f args W (NewO W bs)) : Gives f args w bs := gives_b fun W => (h W).mono fun e w' hh => hh.newB hb hn
theorem same_yes {A B : Option Addr} {n m c d : Nat} {xs : List Int} {w : World} (r : Rd w .u8 A n xs) (s : Rd w .u8 B m xs) :
    Calls Tryz.prog 24 #[.slice A n c, .slice B m d] w fun e w' => e = .returned (.bool true) ∧ Below w.heap.size w w' :=
  (same_any A n c xs B m d xs w r s).mono fun e w' ⟨he, hd⟩ => by
    rw [decide_eq_true rfl] at he
    obtain ⟨k, rfl⟩ := hd
    have h := Below.refl w.heap.size w
    exact ⟨he, ⟨h.os, h.tape, h.output, h.size, h.block⟩⟩
theorem sames_yes {A B : Option Addr} {n m c d : Nat} {xs : List Int} {w : World} (r : Rd w .u32 A n xs) (s : Rd w .u32 B m xs) :
    Calls Tryz.prog 9 #[.slice A n c, .slice B m d] w fun e w' => e = .returned (.bool true) ∧ Below w.heap.size w w' :=
  (samespots_any A B n m c d xs xs w r s).mono fun e w' ⟨q, he, hq, hB⟩ => by
    have : q = true := hq.2 rfl
    subst this
    exact ⟨he, hB⟩
end Go.Proofs.YtgecfcdafbedaaaGreat
